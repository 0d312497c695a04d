/-
  The walks of verdict.Key, Same, End, and of their like in hustingsref11. Nothing is claimed here.
-/
import Derived.Test.YtcelgjabccgnmaaGreatDoorVOf
import Derived.Test.YtcelgjabccgnmaaGreatDoorVParts
namespace Go.Proofs.YtcelgjabccgnmaaGreatDoor
open Go.RowKit
set_option linter.unusedVariables false
set_option linter.unusedSimpArgs false
set_option maxHeartbeats 1000000

section
variable {P : Program} {w : World}
theorem wrap_u8 (n : Nat) : IntKind.u8.wrap (n : Int) = ((UInt8.ofNat n).toNat : Int) := by
  have : (UInt8.ofNat n).toNat = n % 256 := UInt8.toNat_ofNat'
  rw [this]
  simp [IntKind.wrap, IntKind.bits, IntKind.signed]
theorem b_shr8i (t : TypeId) (n : Nat) : (binOp .shr t (.int .i64 (n : Int)) (.int .u64 8)).run P w = .ok (.int .i64 ((n / 256 : Nat) : Int)) w := by
  simp [go_sem]
theorem b_quo256 (t : TypeId) (n : Nat) (h : n < 1000000000000) : (binOp .quo t (.int .i64 (n : Int)) (.int .i64 256)).run P w = .ok (.int .i64 ((n / 256 : Nat) : Int)) w := by
  have h2 : (n : Int).tdiv 256 = ((n / 256 : Nat) : Int) := Int.ofNat_tdiv n 256
  simp [go_sem, h2]; rw [IntWalk.i64_in _ (by omega)]
end
theorem SetsR.shapeK {w : World} {v : Value} {l : List RSet} (h : SetsR w v l) : ∃ ad cap, v = .slice ad l.length cap := by
  obtain ⟨_, _, h, _⟩ := h; exact h.shape
theorem keyL_len (l : List RSet) : (keyL l).length = (l.flatMap keyS).length + 1 := rfl
theorem two_spec (n : Nat) (w0 : World) : Rets Tryz.prog 119 [.int .i64 (n : Nat)] w0 fun v w' => v = .string (mk (two8 n)) ∧ Ext w0 w' := by
  have hH := Hp.refl w0
  refine rets_start Tryz.func119 rfl Tryz.ntmps119 rfl fun a Q0 hF hret hend => ?_
  simp only [argsFrom, Nat.zero_add, Nat.reduceAdd] at hF
  refine c_sr fun ops => ?_
  refine zm 1 hF rfl fun a hF => ?_
  refine c_n ?_
  replace hF := hF.sel [0]
  simp only [ss, Nat.reduceBEq] at hF
  refine c_sr fun ops => ?_
  refine zm 1 hF rfl fun a hF => ?_
  refine zb hF rfl rfl rfl (b_shr8i _ _) fun a hF => ?_
  refine zl hF rfl (r_convw hF rfl rfl Tryz.underlying3 Tryz.underlying5 (wrap_u8 _)) fun a hF => ?_
  refine zm 1 hF rfl fun a hF => ?_
  refine zl hF rfl (r_convw hF rfl rfl Tryz.underlying3 Tryz.underlying5 (wrap_u8 _)) fun a hF => ?_
  refine ls_buildN (us := [_, _]) hF hH rfl rfl rfl rfl rfl rfl Tryz.underlying88 ti5 (by intro u hu; simp only [List.mem_cons, List.not_mem_nil, or_false] at hu; rcases hu with rfl | rfl <;> rfl) (by decide) ?_
  intro a w g1_5 hH hE hF
  refine zl hF rfl (r_convstr hF rfl rfl Tryz.underlying88 Tryz.underlying5 Tryz.underlying9 ((show RSl _ 1 _ 2 (bytV (two8 n)) from rsl_lit (n := 2) (size := 1) hH rfl (by decide)))) fun a hF => ?_
  refine zm 1 hF rfl fun a hF => ?_
  refine c_n ?_
  replace hF := hF.sel [2]
  simp only [ss, Nat.reduceBEq] at hF
  refine wp_ret (hret (ret1 hF Tryz.results119 rfl ?_))
  exact ⟨rfl, hH.below⟩
theorem two_len (n : Nat) : (two8 n).length = 2 := rfl
theorem byte_mod (n : Nat) : UInt8.ofNat (n % 256) = UInt8.ofNat n := UInt8.toNat_inj.1 (by rw [UInt8.toNat_ofNat', UInt8.toNat_ofNat']; omega)
theorem refTwo_spec (n : Nat) (h : n < 1000000000000) (w0 : World) : Rets Tryz.prog 122 [.int .i64 (n : Nat)] w0 fun v w' => v = .string (mk (two8 n)) ∧ Ext w0 w' := by
  have hH := Hp.refl w0
  refine rets_start Tryz.func122 rfl Tryz.ntmps122 rfl fun a Q0 hF hret hend => ?_
  simp only [argsFrom, Nat.zero_add, Nat.reduceAdd] at hF
  refine c_sr fun ops => ?_
  refine zm 1 hF rfl fun a hF => ?_
  refine c_n ?_
  replace hF := hF.sel [0]
  simp only [ss, Nat.reduceBEq] at hF
  refine c_sr fun ops => ?_
  refine zm 1 hF rfl fun a hF => ?_
  refine zb hF rfl rfl rfl (b_quo256 _ _ h) fun a hF => ?_
  refine zb hF rfl rfl rfl (b_remk _ _ 256 (by decide)) fun a hF => ?_
  refine zl hF rfl (r_convw hF rfl rfl Tryz.underlying3 Tryz.underlying5 (wrap_u8 _)) fun a hF => ?_
  refine zm 1 hF rfl fun a hF => ?_
  refine zb hF rfl rfl rfl (b_remk _ _ 256 (by decide)) fun a hF => ?_
  refine zl hF rfl (r_convw hF rfl rfl Tryz.underlying3 Tryz.underlying5 (wrap_u8 _)) fun a hF => ?_
  refine ls_buildN (us := [_, _]) hF hH rfl rfl rfl rfl rfl rfl Tryz.underlying88 ti5 (by intro u hu; simp only [List.mem_cons, List.not_mem_nil, or_false] at hu; rcases hu with rfl | rfl <;> rfl) (by decide) ?_
  intro a w g1_7 hH hE hF
  rw [byte_mod, byte_mod] at hH
  refine zl hF rfl (r_convstr hF rfl rfl Tryz.underlying88 Tryz.underlying5 Tryz.underlying9 ((show RSl _ 1 _ 2 (bytV (two8 n)) from rsl_lit (n := 2) (size := 1) hH rfl (by decide)))) fun a hF => ?_
  refine zm 1 hF rfl fun a hF => ?_
  refine c_n ?_
  replace hF := hF.sel [2]
  simp only [ss, Nat.reduceBEq] at hF
  refine wp_ret (hret (ret1 hF Tryz.results122 rfl ?_))
  exact ⟨rfl, hH.below⟩
theorem putText_spec (d : Bs) (hd : d.length < 100000000) (w0 : World) : Rets Tryz.prog 121 [.string (mk d)] w0 fun v w' => v = .string (mk (keyT d)) ∧ Ext w0 w' := by
  have hH := Hp.refl w0
  have h2 := two_len d.length
  refine rets_start Tryz.func121 rfl Tryz.ntmps121 rfl fun a Q0 hF hret hend => ?_
  simp only [argsFrom, Nat.zero_add, Nat.reduceAdd] at hF
  refine c_sr fun ops => ?_
  refine zm 1 hF rfl fun a hF => ?_
  refine c_n ?_
  replace hF := hF.sel [0]
  simp only [ss, Nat.reduceBEq] at hF
  refine c_sr fun ops => ?_
  refine zm 1 hF rfl fun a hF => ?_
  refine zl hF rfl (r_len_str hF rfl rfl Tryz.underlying9) fun a hF => ?_
  refine zc hF rfl rfl fn119 (two_spec _ _) ?_
  rintro _ w ⟨rfl, hE⟩ a hF
  replace hH := hH.ext hE
  refine zm 1 hF rfl fun a hF => ?_
  refine zb hF rfl rfl rfl (b_sadd _ _ _ (by omega)) fun a hF => ?_
  refine zm 1 hF rfl fun a hF => ?_
  refine c_n ?_
  replace hF := hF.sel [2]
  simp only [ss, Nat.reduceBEq] at hF
  refine wp_ret (hret (ret1 hF Tryz.results121 rfl ?_))
  exact ⟨rfl, hH.below⟩
theorem flat_take {α : Type} (f : α → Bs) : ∀ (l : List α) (i : Nat), ((l.take i).flatMap f).length ≤ (l.flatMap f).length
  | [], i => by simp
  | x :: l, 0 => by simp
  | x :: l, i + 1 => by
    have := flat_take f l i
    simp only [List.take_succ_cons, List.flatMap_cons, List.length_append]; omega
theorem flat_next {α : Type} (f : α → Bs) {l : List α} {i : Nat} (h : i < l.length) : (l.take (i + 1)).flatMap f = (l.take i).flatMap f ++ f l[i] := by
  rw [List.take_succ_eq_append_getElem h, List.flatMap_append]; simp
theorem putStr_spec (l : List Bs) (v : Value) (w0 : World) (hR : RSl w0 1 v l.length (strV l)) (hl : l.length < 1000000) (hd : ∀ d ∈ l, d.length < 1000000) (ht : (l.flatMap keyT).length < 1000000000000) :
    Rets Tryz.prog 120 [v, .int .i64 2, .func (.func 121) #[] #[]] w0 fun r w' => r = .string (mk (two8 l.length ++ l.flatMap keyT)) ∧ Ext w0 w' := by
  have hH := Hp.refl w0
  obtain ⟨ad, cap, rfl⟩ := hR.shape
  have h2 := two_len l.length
  refine rets_start Tryz.func120 rfl Tryz.ntmps120 rfl fun a Q0 hF hret hend => ?_
  simp only [argsFrom, Nat.zero_add, Nat.reduceAdd] at hF
  refine c_sr fun ops => ?_
  refine zm 1 hF rfl fun a hF => ?_
  refine c_n ?_
  replace hF := hF.sel [0, 1, 2]
  simp only [ss, Nat.reduceBEq] at hF
  refine c_sr fun ops => ?_
  refine zm 1 hF rfl fun a hF => ?_
  refine zl hF rfl (r_len_sl hF rfl rfl Tryz.underlying25) fun a hF => ?_
  refine zc hF rfl rfl fn119 (two_spec _ _) ?_
  rintro _ w ⟨rfl, hE⟩ a hF
  replace hH := hH.ext hE
  refine zm 1 hF rfl fun a hF => ?_
  refine zb hF rfl rfl rfl (b_subn _ 2 2 (by decide)) fun a hF => ?_
  refine zl hF rfl (r_slicefn hF _ rfl rfl Tryz.underlying9 ⟨_, rfl⟩ (by omega)) fun a hF => ?_
  refine zm 1 hF rfl fun a hF => ?_
  refine c_n ?_
  replace hF := hF.sel [0, 2, 7]
  simp only [ss, Nat.reduceBEq] at hF
  refine c_seq fun Q1 k1 t1 => ?_
  refine c_sr fun ops => ?_
  refine zm 1 hF rfl fun a hF => ?_
  refine zl hF rfl (r_len_sl hF rfl rfl Tryz.underlying25) fun a hF => ?_
  refine zm 1 hF rfl fun a hF => ?_
  refine c_n ?_
  replace hF := hF.sel [2, 7, 16, 17, 18]
  simp only [ss, Nat.reduceBEq] at hF
  refine c_block fun Q2 t2 => ?_
  refine c_loop (fun n a w => ∃ i, n = l.length - i ∧ i ≤ l.length ∧ Fr 29 [(2, .func (.func 121) #[] #[]), (7, .string (mk (two8 l.length ++ (l.take i).flatMap keyT))), (16, .slice ad l.length cap), (17, .int .i64 (l.length : Nat)), (18, .int .i64 (i : Nat))] a ∧ Hp w0 w []) ?_ ?_
  ·
   exact ⟨_, 0, rfl, Nat.zero_le _, hF.keep [2, 7, 16, 17, 18] rfl, hH⟩
  clear hH hF
  intro n a w hI Q3 k3 t3
  obtain ⟨i, hm, hi, hF, hH⟩ := hI
  refine c_sr fun ops => ?_
  refine zb hF rfl rfl rfl (b_ltn _ _ _ _) fun a hF => ?_
  refine c_n ?_
  refine c_seq fun Q4 k4 t4 => ?_
  refine c_fi hF rfl (fun h19 => ?_) (fun h19 => ?_)
  ·
   try simp only [qq] at h19
   rw [List.take_of_length_le (by omega)] at hF
   refine wp_exit (t4.exit (t3.exit (t2.here (?_))))
   refine k1 ?_
   refine c_sr fun ops => ?_
   refine zm 2 hF rfl fun a hF => ?_
   refine c_n ?_
   replace hF := hF.sel [6]
   simp only [ss, Nat.reduceBEq] at hF
   refine wp_ret (hret (ret1 hF Tryz.results120 rfl ?_))
   exact ⟨rfl, hH.below⟩
  try simp only [qq] at h19
  obtain ⟨b, off, rfl, hc⟩ := hR.at h19
  rw [List.getD_eq_getElem?_getD, List.getElem?_eq_getElem h19, Option.getD_some] at hc
  have hdl := hd _ (List.getElem_mem h19)
  have ht1 := flat_take keyT l (i + 1)
  rw [flat_next keyT h19, List.length_append] at ht1
  refine wp_skip ?_
  refine k4 ?_
  refine c_seq fun Q5 k5 t5 => ?_
  refine c_block fun Q6 t6 => ?_
  refine c_sr fun ops => ?_
  refine zl hF rfl (r_ix1 hF _ rfl rfl rfl Tryz.underlying25 ti9 (by omega)) fun a hF => ?_
  refine zl hF rfl (r_load hF rfl rfl fl9 (hH.cell hc)) fun a hF => ?_
  refine zm 1 hF rfl fun a hF => ?_
  refine c_n ?_
  refine c_reg fun ops => ?_
  refine zm 3 hF rfl fun a hF => ?_
  refine ls_callv hF rfl rfl rfl rfl rfl rfl fn121 (putText_spec l[i] (by omega) _) ?_
  rintro _ w ⟨rfl, hE⟩ a hF
  replace hH := hH.ext hE
  refine zb hF rfl rfl rfl (b_sadd _ _ _ (by rw [List.length_append]; omega)) fun a hF => ?_
  refine zm 1 hF rfl fun a hF => ?_
  refine wpList_nil ?_
  refine t6.norm ?_
  refine k5 ?_
  refine c_reg fun ops => ?_
  refine zb hF rfl rfl rfl (b_addn _ _ 1 (by omega)) fun a hF => ?_
  refine zm 1 hF rfl fun a hF => ?_
  refine wpList_nil ?_
  refine k3 ?_
  refine ⟨l.length - (i + 1), by omega, i + 1, rfl, h19, ?_, hH⟩
  rw [flat_next keyT h19, ← List.append_assoc]
  exact hF.keep [2, 7, 16, 17, 18] rfl
/-- What is small of a set, for its key. -/
structure SetK (s : RSet) : Prop where
  name : s.name.length < 1000000
  kind : s.kind < 65536
  cls : s.cls < 65536
  data : s.data.length < 1000000
  each : ∀ d ∈ s.data, d.length < 1000000
  all : (s.data.flatMap keyT).length < 10000000000
theorem keyS_len {s : RSet} (h : SetK s) : (keyS s).length < 10001000010 := by
  have h1 := h.name
  have h2 := h.all
  simp only [keyS, List.length_append, two_len]; omega
theorem putSet_spec (s : RSet) (dv : Value) (w0 : World) (hv : RSl w0 1 dv s.data.length (strV s.data)) (hs : SetK s) :
    Rets Tryz.prog 88 [.agg (setV s dv).toArray] w0 fun v w' => v = .string (mk (keyS s)) ∧ Ext w0 w' := by
  have hH := Hp.refl w0
  have h1 := hs.name
  have h2 := hs.kind
  have h3 := hs.cls
  have h4 := hs.all
  have t1 := two_len s.kind
  have t2 := two_len s.cls
  have t3 := two_len s.data.length
  refine rets_start Tryz.func88 rfl Tryz.ntmps88 rfl fun a Q0 hF hret hend => ?_
  simp only [argsFrom, Nat.zero_add, Nat.reduceAdd] at hF
  refine c_sr fun ops => ?_
  refine ls_box hF hH rfl rfl rfl rfl rfl ?_
  intro a w g0_0 hH hE hF
  refine zm 1 hF rfl fun a hF => ?_
  refine c_n ?_
  replace hF := hF.sel [1]
  simp only [ss, Nat.reduceBEq] at hF
  refine c_seq fun Q1 k1 t1 => ?_
  simp only [cells_agg] at hH
  refine q_reg (by kernel_rfl) (by kernel_rfl) ?_
  refine qs hF rfl rfl rfl (fun w hw => r_fieldaddr0 hF rfl rfl fd27_0) fun a hF => ?_
  refine qs hF rfl rfl rfl (fun w hw => r_load hF rfl rfl fl9 (hw.cell (own_cell (i := 0) hH rfl rfl))) fun a hF => ?_
  refine qs hF rfl rfl rfl (fun w hw => r_fieldaddr0 hF rfl rfl fd27_1) fun a hF => ?_
  refine qs hF rfl rfl rfl (fun w hw => r_load hF rfl rfl fl23 (hw.cell (own_cell (i := 0) hH rfl rfl))) fun a hF => ?_
  refine qs hF rfl rfl rfl (fun w hw => r_convin hF rfl rfl (by rw [Tryz.underlying23]; rfl) Tryz.underlying3 (-9223372036854775808) 9223372036854775807 mn_i64 mx_i64 (by omega)) fun a hF => ?_
  refine qs_call hF rfl rfl rfl rfl rfl fn119 (fun w hw => two_spec _ _) fun a hF => ?_
  refine qs hF rfl rfl rfl (fun w hw => zr hF rfl rfl (b_sadd _ _ _ (by omega))) fun a hF => ?_
  refine qs hF rfl rfl rfl (fun w hw => r_fieldaddr0 hF rfl rfl fd27_2) fun a hF => ?_
  refine qs hF rfl rfl rfl (fun w hw => r_load hF rfl rfl fl23 (hw.cell (own_cell (i := 0) hH rfl rfl))) fun a hF => ?_
  refine qs hF rfl rfl rfl (fun w hw => r_convin hF rfl rfl (by rw [Tryz.underlying23]; rfl) Tryz.underlying3 (-9223372036854775808) 9223372036854775807 mn_i64 mx_i64 (by omega)) fun a hF => ?_
  refine qs_call hF rfl rfl rfl rfl rfl fn119 (fun w hw => two_spec _ _) fun a hF => ?_
  refine qs hF rfl rfl rfl (fun w hw => zr hF rfl rfl (b_sadd _ _ _ (by rw [List.length_append]; omega))) fun a hF => ?_
  refine qs hF rfl rfl rfl (fun w hw => r_fieldaddr0 hF rfl rfl fd27_4) fun a hF => ?_
  refine qs hF rfl rfl rfl (fun w hw => r_load hF rfl rfl fl25 (hw.cell (own_cell (i := 0) hH rfl rfl))) fun a hF => ?_
  refine qs_call hF rfl rfl rfl rfl rfl fn120 (fun w hw => putStr_spec s.data dv _ (hv.ext (hH.below.trans hw)) hs.data hs.each (by omega)) fun a hF => ?_
  refine qs hF rfl rfl rfl (fun w hw => zr hF rfl rfl (b_sadd _ _ _ (by rw [List.length_append, List.length_append, List.length_append]; omega))) fun a hF => ?_
  refine qs hF rfl rfl rfl (fun w hw => r_assign hF rfl rfl) fun a hF => ?_
  refine q_nil fun w hE => ?_
  replace hH := hH.ext hE
  replace hF := hF.sel [2]
  simp only [ss, Nat.reduceBEq] at hF
  refine k1 ?_
  refine wp_ret (hret (ret1 hF Tryz.results88 rfl ?_))
  exact ⟨by unfold keyS; simp only [List.append_assoc], hH.below⟩
theorem putSets_spec (l : List RSet) (v : Value) (w0 : World) (hR : SetsR w0 v l) (hl : l.length < 1000000) (hd : ∀ s ∈ l, SetK s) (ht : (l.flatMap keyS).length < 1000000000000) :
    Rets Tryz.prog 87 [v, .int .i64 1, .func (.func 88) #[] #[]] w0 fun r w' => r = .string (mk (keyL l)) ∧ Ext w0 w' := by
  have hH := Hp.refl w0
  obtain ⟨ad, cap, rfl⟩ := (by obtain ⟨_, _, h, _⟩ := hR; exact h.shape : ∃ ad cap, v = .slice ad l.length cap)
  have h2 := two_len l.length
  refine rets_start Tryz.func87 rfl Tryz.ntmps87 rfl fun a Q0 hF hret hend => ?_
  simp only [argsFrom, Nat.zero_add, Nat.reduceAdd] at hF
  refine c_sr fun ops => ?_
  refine zm 1 hF rfl fun a hF => ?_
  refine c_n ?_
  replace hF := hF.sel [0, 1, 2]
  simp only [ss, Nat.reduceBEq] at hF
  refine c_sr fun ops => ?_
  refine zm 1 hF rfl fun a hF => ?_
  refine zl hF rfl (r_len_sl hF rfl rfl Tryz.underlying22) fun a hF => ?_
  refine zc hF rfl rfl fn119 (two_spec _ _) ?_
  rintro _ w ⟨rfl, hE⟩ a hF
  replace hH := hH.ext hE
  refine zm 1 hF rfl fun a hF => ?_
  refine zb hF rfl rfl rfl (b_subn _ 2 1 (by decide)) fun a hF => ?_
  refine zl hF rfl (r_slicefn hF _ rfl rfl Tryz.underlying9 ⟨_, rfl⟩ (by omega)) fun a hF => ?_
  refine zm 1 hF rfl fun a hF => ?_
  refine c_n ?_
  replace hF := hF.sel [0, 2, 7]
  simp only [ss, Nat.reduceBEq] at hF
  refine c_seq fun Q1 k1 t1 => ?_
  refine c_sr fun ops => ?_
  refine zm 1 hF rfl fun a hF => ?_
  refine zl hF rfl (r_len_sl hF rfl rfl Tryz.underlying22) fun a hF => ?_
  refine zm 1 hF rfl fun a hF => ?_
  refine c_n ?_
  replace hF := hF.sel [2, 7, 16, 17, 18]
  simp only [ss, Nat.reduceBEq] at hF
  refine c_block fun Q2 t2 => ?_
  refine c_loop (fun n a w => ∃ i, n = l.length - i ∧ i ≤ l.length ∧ Fr 29 [(2, .func (.func 88) #[] #[]), (7, .string (mk (keyB l.length ++ (l.take i).flatMap keyS))), (16, .slice ad l.length cap), (17, .int .i64 (l.length : Nat)), (18, .int .i64 (i : Nat))] a ∧ Hp w0 w []) ?_ ?_
  ·
   exact ⟨_, 0, rfl, Nat.zero_le _, hF.keep [2, 7, 16, 17, 18] rfl, hH⟩
  clear hH hF
  intro n a w hI Q3 k3 t3
  obtain ⟨i, hm, hi, hF, hH⟩ := hI
  refine c_sr fun ops => ?_
  refine zb hF rfl rfl rfl (b_ltn _ _ _ _) fun a hF => ?_
  refine c_n ?_
  refine c_seq fun Q4 k4 t4 => ?_
  refine c_fi hF rfl (fun h19 => ?_) (fun h19 => ?_)
  ·
   try simp only [qq] at h19
   rw [List.take_of_length_le (by omega)] at hF
   refine wp_exit (t4.exit (t3.exit (t2.here (?_))))
   refine k1 ?_
   refine c_sr fun ops => ?_
   refine zm 2 hF rfl fun a hF => ?_
   refine c_n ?_
   replace hF := hF.sel [6]
   simp only [ss, Nat.reduceBEq] at hF
   refine wp_ret (hret (ret1 hF Tryz.results87 rfl ?_))
   exact ⟨rfl, hH.below⟩
  try simp only [qq] at h19
  obtain ⟨b, off, dv, rfl, hset, hdv⟩ := hR.at h19
  have hdl := hd _ (List.getElem_mem h19)
  have ht1 := flat_take keyS l (i + 1)
  rw [flat_next keyS h19, List.length_append] at ht1
  refine wp_skip ?_
  refine k4 ?_
  refine c_seq fun Q5 k5 t5 => ?_
  refine c_block fun Q6 t6 => ?_
  refine c_sr fun ops => ?_
  refine zl hF rfl (r_indexaddr hF _ rfl rfl rfl Tryz.underlying22 ti27 (by omega)) fun a hF => ?_
  refine zl hF rfl (r_loadagg hF rfl rfl Tryz.underlying27 ti27 rfl (fun j u hu => hH.cell (hset j u hu))) fun a hF => ?_
  refine ls_alloc hF hH rfl rfl rfl rfl zv27 ?_
  intro a w g4_2 hH hE hF
  refine ls_storeagg 0 hF hH rfl rfl rfl rfl rfl ti27 rfl (rfl) (rfl) (by have := hdv.shape; obtain ⟨_, _, rfl⟩ := this; simp [setV, cells_agg, Value.oneCell']) ?_
  intro w hH
  simp only [List.set_cons_zero] at hH
  refine c_n ?_
  refine c_reg fun ops => ?_
  refine zm 2 hF rfl fun a hF => ?_
  refine zl hF rfl (r_loadagg hF rfl rfl Tryz.underlying27 ti27 rfl (own_agg (i := 0) hH rfl)) fun a hF => ?_
  refine ls_callv hF rfl rfl rfl rfl rfl rfl fn88 (putSet_spec l[i] dv _ (hdv.ext hH.below) hdl) ?_
  rintro _ w ⟨rfl, hE⟩ a hF
  replace hH := hH.ext hE
  refine zb hF rfl rfl rfl (b_sadd _ _ _ (by rw [List.length_append]; have : (keyB l.length).length = 1 := rfl; omega)) fun a hF => ?_
  refine zm 1 hF rfl fun a hF => ?_
  refine wpList_nil ?_
  refine t6.norm ?_
  refine k5 ?_
  refine c_reg fun ops => ?_
  refine zb hF rfl rfl rfl (b_addn _ _ 1 (by omega)) fun a hF => ?_
  refine zm 1 hF rfl fun a hF => ?_
  refine wpList_nil ?_
  refine k3 ?_
  refine ⟨l.length - (i + 1), by omega, i + 1, rfl, h19, ?_, hH.drop⟩
  rw [flat_next keyS h19, ← List.append_assoc]
  exact hF.keep [2, 7, 16, 17, 18] rfl
/-- What is small of a verdict, for its key. -/
structure VerdK (x : Verd) : Prop where
  code : x.code < 256
  setsL : x.sets.length < 1000000
  soaL : x.soa.length < 1000000
  sets : ∀ s ∈ x.sets, SetK s
  soa : ∀ s ∈ x.soa, SetK s
  setsT : (x.sets.flatMap keyS).length < 1000000000000
  soaT : (x.soa.flatMap keyS).length < 1000000000000
theorem bytV_code {n : Nat} (h : n < 256) : bytV [UInt8.ofNat n] = [.int .u8 (n : Int)] := by
  have : (UInt8.ofNat n).toNat = n := by rw [UInt8.toNat_ofNat']; omega
  simp only [bytV, List.map_cons, List.map_nil, this]
theorem key_spec (x : Verd) (sv ov : Value) (w0 : World) (hR : VerdR w0 x sv ov) (hx : VerdK x) :
    Rets Tryz.prog 46 [.agg (verdV x sv ov).toArray] w0 fun v w' => v = .string (mk (keyV x)) ∧ Ext w0 w' := by
  have hH := Hp.refl w0
  have h1 := hx.setsT
  have h2 := hx.soaT
  obtain ⟨sad, scp, rfl⟩ := hR.sets.shapeK
  obtain ⟨oad, ocp, rfl⟩ := hR.soa.shapeK
  refine rets_start Tryz.func46 rfl Tryz.ntmps46 rfl fun a Q0 hF hret hend => ?_
  simp only [argsFrom, Nat.zero_add, Nat.reduceAdd] at hF
  refine c_sr fun ops => ?_
  refine ls_box hF hH rfl rfl rfl rfl rfl ?_
  intro a w g0_0 hH hE hF
  refine zm 1 hF rfl fun a hF => ?_
  refine c_n ?_
  replace hF := hF.sel [1]
  simp only [ss, Nat.reduceBEq] at hF
  refine c_seq fun Q1 k1 t1 => ?_
  simp only [cells_agg] at hH
  refine c_flow [0, 4, 8] [1, 2, 3, 5, 6, 7, 9, 10, 11, 12] [] [] (by kernel_rfl) (by kernel_rfl) fun hB => ?_
  refine ps hF rfl rfl rfl rfl (fun w => r_fieldaddr0 hF rfl rfl fd65_0) fun a hF => ?_
  refine ps hF rfl rfl rfl rfl (fun w => r_fieldaddr0 hF rfl rfl fd65_1) fun a hF => ?_
  refine ps hF rfl rfl rfl rfl (fun w => r_fieldaddr0 hF rfl rfl fd65_2) fun a hF => ?_
  refine fl_start [4, 5, 6, 8, 9, 10, 12, 13, 14, 2] hB (by kernel_rfl) hF ?_
  simp only [wo, hasN, Nat.reduceBEq, cond_true, cond_false] at hF ⊢
  refine fs1 rfl (by
   intro a w Lr hE hC hl
   replace hH := hH.ext hE
   have hF := hC.fr
   exact zl hF rfl (r_load hF rfl rfl fl5 (own_cell (i := 0) hH rfl rfl)) fun a' hF' => wpList_nil (fl_end hC hF' (Ext.refl _) rfl)) ?_
  refine fsr rfl (by
   intro a w Lr hE hC hl
   replace hH := hH.ext hE
   obtain ⟨_, s4, rfl⟩ := hl 4 (by decide) _ rfl
   replace hC := hC.more s4
   have hF := hC.fr
   refine ls_build1 hF (Hp.refl w) rfl rfl rfl rfl rfl Tryz.underlying88 ti5 rfl (by decide) ?_
   intro a' w' g hH' hE' hF'
   exact wpList_nil (fl_end hC hF' hE' (by exact rsl_lit (n := 1) (size := 1) hH' rfl (by decide)))) ?_
  refine fs1 rfl (by
   intro a w Lr hE hC hl
   replace hH := hH.ext hE
   obtain ⟨v5, s5, p5⟩ := hl 5 (by decide) _ rfl
   replace hC := hC.more s5
   have hF := hC.fr
   exact zl hF rfl (r_convstr hF rfl rfl Tryz.underlying88 Tryz.underlying5 Tryz.underlying9 ((show RSl w 1 v5 1 (bytV [UInt8.ofNat x.code]) by rw [bytV_code hx.code]; exact p5))) fun a' hF' => wpList_nil (fl_end hC hF' (Ext.refl _) rfl)) ?_
  refine fs1 rfl (by
   intro a w Lr hE hC hl
   replace hH := hH.ext hE
   have hF := hC.fr
   exact zl hF rfl (r_load hF rfl rfl fl22 (own_cell (i := 0) hH rfl rfl)) fun a' hF' => wpList_nil (fl_end hC hF' (Ext.refl _) rfl)) ?_
  refine fs1 rfl (by
   intro a w Lr hE hC hl
   replace hH := hH.ext hE
   obtain ⟨_, s8, rfl⟩ := hl 8 (by decide) _ rfl
   replace hC := hC.more s8
   have hF := hC.fr
   refine zc hF rfl rfl fn87 (putSets_spec x.sets _ _ (hR.sets.ext hH.below) hx.setsL hx.sets h1) ?_
   rintro _ w' ⟨rfl, hE'⟩ a' hF'
   exact wpList_nil (fl_end hC hF' hE' rfl)) ?_
  refine fs1 rfl (by
   intro a w Lr hE hC hl
   replace hH := hH.ext hE
   obtain ⟨_, s6, rfl⟩ := hl 6 (by decide) _ rfl
   replace hC := hC.more s6
   obtain ⟨_, s9, rfl⟩ := hl 9 (by decide) _ rfl
   replace hC := hC.more s9
   have hF := hC.fr
   exact zl hF rfl (zr hF rfl rfl (b_sadd _ _ _ (by rw [keyL_len]; simp only [List.length_cons, List.length_nil]; omega))) fun a' hF' => wpList_nil (fl_end hC hF' (Ext.refl _) rfl)) ?_
  refine fs1 rfl (by
   intro a w Lr hE hC hl
   replace hH := hH.ext hE
   have hF := hC.fr
   exact zl hF rfl (r_load hF rfl rfl fl22 (own_cell (i := 0) hH rfl rfl)) fun a' hF' => wpList_nil (fl_end hC hF' (Ext.refl _) rfl)) ?_
  refine fs1 rfl (by
   intro a w Lr hE hC hl
   replace hH := hH.ext hE
   obtain ⟨_, s12, rfl⟩ := hl 12 (by decide) _ rfl
   replace hC := hC.more s12
   have hF := hC.fr
   refine zc hF rfl rfl fn87 (putSets_spec x.soa _ _ (hR.soa.ext hH.below) hx.soaL hx.soa h2) ?_
   rintro _ w' ⟨rfl, hE'⟩ a' hF'
   exact wpList_nil (fl_end hC hF' hE' rfl)) ?_
  refine fs1 rfl (by
   intro a w Lr hE hC hl
   replace hH := hH.ext hE
   obtain ⟨_, s10, rfl⟩ := hl 10 (by decide) _ rfl
   replace hC := hC.more s10
   obtain ⟨_, s13, rfl⟩ := hl 13 (by decide) _ rfl
   replace hC := hC.more s13
   have hF := hC.fr
   exact zl hF rfl (zr hF rfl rfl (b_sadd _ _ _ (by rw [List.length_append, keyL_len, keyL_len]; simp only [List.length_cons, List.length_nil]; omega))) fun a' hF' => wpList_nil (fl_end hC hF' (Ext.refl _) rfl)) ?_
  refine fs1 rfl (by
   intro a w Lr hE hC hl
   replace hH := hH.ext hE
   obtain ⟨_, s14, rfl⟩ := hl 14 (by decide) _ rfl
   replace hC := hC.more s14
   have hF := hC.fr
   exact zl hF rfl (r_assign hF rfl rfl) fun a' hF' => wpList_nil (fl_end hC hF' (Ext.refl _) rfl)) ?_
  intro a w hE hF hall
  replace hH := hH.ext hE
  obtain ⟨_, s2, rfl⟩ := hall 2 _ rfl
  replace hF := hF.more s2
  clear hall
  refine wpList_nil ?_
  replace hF := hF.sel [2]
  simp only [ss, Nat.reduceBEq] at hF
  refine k1 ?_
  refine wp_ret (hret (ret1 hF Tryz.results46 rfl ?_))
  exact ⟨rfl, hH.below⟩
theorem equalF_spec (l m : List RSet) (v u : Value) (w0 : World) (hR : SetsR w0 v l) (hS : SetsR w0 u m) (hl : l.length < 1000000) (hm : m.length < 1000000) (hdl : ∀ s ∈ l, s.data.length < 1000000) (hdm : ∀ s ∈ m, s.data.length < 1000000) :
    Rets Tryz.prog 89 [v, u, .func (.func 21) #[] #[]] w0 fun r w' => r = .bool (decide (l = m)) ∧ Ext w0 w' := by
  have hH := Hp.refl w0
  obtain ⟨ad, cap, rfl⟩ := (by obtain ⟨_, _, h, _⟩ := hR; exact h.shape : ∃ ad cap, v = .slice ad l.length cap)
  obtain ⟨bd, bcp, rfl⟩ := (by obtain ⟨_, _, h, _⟩ := hS; exact h.shape : ∃ ad cap, u = .slice ad m.length cap)
  refine rets_start Tryz.func89 rfl Tryz.ntmps89 rfl fun a Q0 hF hret hend => ?_
  simp only [argsFrom, Nat.zero_add, Nat.reduceAdd] at hF
  refine c_sr fun ops => ?_
  refine zm 1 hF rfl fun a hF => ?_
  refine c_n ?_
  replace hF := hF.sel [0, 1, 2]
  simp only [ss, Nat.reduceBEq] at hF
  refine c_seq fun Q1 k1 t1 => ?_
  refine c_sr fun ops => ?_
  refine zm 1 hF rfl fun a hF => ?_
  refine zl hF rfl (r_len_sl hF rfl rfl Tryz.underlying22) fun a hF => ?_
  refine zm 1 hF rfl fun a hF => ?_
  refine zl hF rfl (r_len_sl hF rfl rfl Tryz.underlying22) fun a hF => ?_
  refine zb hF rfl rfl rfl (b_nen _ _ _ _) fun a hF => ?_
  refine c_n ?_
  replace hF := hF.sel [0, 1, 2, 14]
  simp only [ss, Nat.reduceBEq] at hF
  refine c_if hF rfl (fun h14 => ?_) (fun h14 => ?_)
  ·
   try simp only [qq] at h14
   refine c_sr fun ops => ?_
   refine zm 1 hF rfl fun a hF => ?_
   refine c_n ?_
   replace hF := hF.sel [6]
   simp only [ss, Nat.reduceBEq] at hF
   refine wp_ret (t1.ret (hret (ret1 hF Tryz.results89 rfl ?_)))
   exact ⟨congrArg Value.bool (decide_eq_false (fun e => h14 (by rw [e]))).symm, hH.below⟩
  try simp only [qq] at h14
  refine wp_skip ?_
  refine k1 ?_
  refine c_seq fun Q2 k2 t2 => ?_
  refine c_sr fun ops => ?_
  refine zm 1 hF rfl fun a hF => ?_
  refine zl hF rfl (r_len_sl hF rfl rfl Tryz.underlying22) fun a hF => ?_
  refine zm 1 hF rfl fun a hF => ?_
  refine c_n ?_
  replace hF := hF.sel [1, 2, 15, 16, 17]
  simp only [ss, Nat.reduceBEq] at hF
  refine c_block fun Q3 t3 => ?_
  refine c_loop (fun n a w => ∃ i, n = l.length - i ∧ i ≤ l.length ∧ (∀ j (h : j < i) (h1 : j < l.length) (h2 : j < m.length), l[j] = m[j]) ∧ Fr 32 [(1, .slice bd m.length bcp), (2, .func (.func 21) #[] #[]), (15, .slice ad l.length cap), (16, .int .i64 (l.length : Nat)), (17, .int .i64 (i : Nat))] a ∧ Hp w0 w []) ?_ ?_
  ·
   exact ⟨_, 0, rfl, Nat.zero_le _, fun j h => (Nat.not_lt_zero _ h).elim, hF.keep [1, 2, 15, 16, 17] rfl, hH⟩
  clear hH hF
  intro n a w hI Q4 k4 t4
  obtain ⟨i, hmm, hi, hall, hF, hH⟩ := hI
  refine c_sr fun ops => ?_
  refine zb hF rfl rfl rfl (b_ltn _ _ _ _) fun a hF => ?_
  refine c_n ?_
  refine c_seq fun Q5 k5 t5 => ?_
  refine c_fi hF rfl (fun h18 => ?_) (fun h18 => ?_)
  ·
   try simp only [qq] at h18
   refine wp_exit (t5.exit (t4.exit (t3.here (?_))))
   refine k2 ?_
   refine c_sr fun ops => ?_
   refine zm 1 hF rfl fun a hF => ?_
   refine c_n ?_
   replace hF := hF.sel [6]
   simp only [ss, Nat.reduceBEq] at hF
   refine wp_ret (hret (ret1 hF Tryz.results89 rfl ?_))
   exact ⟨congrArg Value.bool (decide_eq_true (List.ext_getElem (by omega) fun j h1 h2 => hall j (by omega) h1 h2)).symm, hH.below⟩
  try simp only [qq] at h18
  obtain ⟨b, off, dv, rfl, hset, hdv⟩ := hR.at h18
  have h18m : i < m.length := by omega
  obtain ⟨b2, off2, dv2, rfl, hset2, hdv2⟩ := hS.at h18m
  have hd1 := hdl _ (List.getElem_mem h18)
  have hd2 := hdm _ (List.getElem_mem h18m)
  refine wp_skip ?_
  refine k5 ?_
  refine c_seq fun Q6 k6 t6 => ?_
  refine c_block fun Q7 t7 => ?_
  refine c_sr fun ops => ?_
  refine zm 1 hF rfl fun a hF => ?_
  refine zl hF rfl (r_indexaddr hF _ rfl rfl rfl Tryz.underlying22 ti27 (by omega)) fun a hF => ?_
  refine zl hF rfl (r_loadagg hF rfl rfl Tryz.underlying27 ti27 rfl (fun j u hu => hH.cell (hset j u hu))) fun a hF => ?_
  refine ls_alloc hF hH rfl rfl rfl rfl zv27 ?_
  intro a w g5_3 hH hE hF
  refine zm 1 hF rfl fun a hF => ?_
  refine ls_storeagg 0 hF hH rfl rfl rfl rfl rfl ti27 rfl (rfl) (rfl) (by have := hdv.shape; obtain ⟨_, _, rfl⟩ := this; simp [setV, cells_agg, Value.oneCell']) ?_
  intro w hH
  simp only [List.set_cons_zero] at hH
  refine c_n ?_
  refine c_sr fun ops => ?_
  refine zm 2 hF rfl fun a hF => ?_
  refine zl hF rfl (r_indexaddr hF _ rfl rfl rfl Tryz.underlying22 ti27 (by omega)) fun a hF => ?_
  refine zl hF rfl (r_loadagg hF rfl rfl Tryz.underlying27 ti27 rfl (fun j u hu => hH.cell (hset2 j u hu))) fun a hF => ?_
  refine ls_alloc hF hH rfl rfl rfl rfl zv27 ?_
  intro a w g6_4 hH hE hF
  refine ls_storeagg 0 hF hH rfl rfl rfl rfl rfl ti27 rfl (rfl) (rfl) (by have := hdv2.shape; obtain ⟨_, _, rfl⟩ := this; simp [setV, cells_agg, Value.oneCell']) ?_
  intro w hH
  simp only [List.set_cons_zero] at hH
  refine c_n ?_
  refine c_sr fun ops => ?_
  refine zm 1 hF rfl fun a hF => ?_
  refine zl hF rfl (r_loadagg hF rfl rfl Tryz.underlying27 ti27 rfl (own_agg (i := 1) hH rfl)) fun a hF => ?_
  refine zl hF rfl (r_loadagg hF rfl rfl Tryz.underlying27 ti27 rfl (own_agg (i := 0) hH rfl)) fun a hF => ?_
  refine ls_callv hF rfl rfl rfl rfl rfl rfl fn21 (same_set_spec l[i] m[i] dv dv2 _ (hdv.ext hH.below) (hdv2.ext hH.below) hd1 hd2) ?_
  rintro _ w ⟨rfl, hE⟩ a hF
  replace hH := hH.ext hE
  refine zl hF rfl (r_not hF rfl rfl) fun a hF => ?_
  refine c_n ?_
  refine c_if hF rfl (fun h30 => ?_) (fun h30 => ?_)
  ·
   try simp only [qq] at h30
   refine c_sr fun ops => ?_
   refine zm 1 hF rfl fun a hF => ?_
   refine c_n ?_
   refine wp_ret (t7.ret (t6.ret (t4.ret (t3.ret (t2.ret (hret (ret1 hF Tryz.results89 rfl ?_)))))))
   exact ⟨congrArg Value.bool (decide_eq_false (fun e => by subst e; rw [sameS_self] at h30; exact absurd h30 (by decide))).symm, hH.below⟩
  try simp only [qq] at h30
  refine wp_skip ?_
  refine t7.norm ?_
  refine k6 ?_
  refine c_reg fun ops => ?_
  refine zb hF rfl rfl rfl (b_addn _ _ 1 (by omega)) fun a hF => ?_
  refine zm 1 hF rfl fun a hF => ?_
  refine wpList_nil ?_
  refine k4 ?_
  refine ⟨l.length - (i + 1), by omega, i + 1, rfl, h18, fun j hj h1 h2 => ?_, hF.keep [1, 2, 15, 16, 17] rfl, hH.drop.drop⟩
  rcases Nat.lt_succ_iff_lt_or_eq.1 hj with h | rfl
  · exact hall j h h1 h2
  · exact sameS_eq (by simpa using h30)
/-- What is small of a verdict, to tell it from another one. -/
structure VerdM (x : Verd) : Prop where
  setsL : x.sets.length < 1000000
  soaL : x.soa.length < 1000000
  sets : ∀ s ∈ x.sets, s.data.length < 1000000
  soa : ∀ s ∈ x.soa, s.data.length < 1000000
theorem verd_eq {x y : Verd} : x = y ↔ x.code = y.code ∧ x.sets = y.sets ∧ x.soa = y.soa := by
  cases x; cases y; simp
theorem vsame_spec (x y : Verd) (sv ov tv pv : Value) (w0 : World) (hR : VerdR w0 x sv ov) (hS : VerdR w0 y tv pv) (hx : VerdM x) (hy : VerdM y) :
    Rets Tryz.prog 47 [.agg (verdV x sv ov).toArray, .agg (verdV y tv pv).toArray] w0 fun v w' => v = .bool (decide (x = y)) ∧ Ext w0 w' := by
  have hH := Hp.refl w0
  refine rets_start Tryz.func47 rfl Tryz.ntmps47 rfl fun a Q0 hF hret hend => ?_
  simp only [argsFrom, Nat.zero_add, Nat.reduceAdd] at hF
  refine c_sr fun ops => ?_
  refine ls_box hF hH rfl rfl rfl rfl rfl ?_
  intro a w g0_0 hH hE hF
  refine ls_box hF hH rfl rfl rfl rfl rfl ?_
  intro a w g0_1 hH hE hF
  refine zm 1 hF rfl fun a hF => ?_
  refine c_n ?_
  replace hF := hF.sel [2, 3]
  simp only [ss, Nat.reduceBEq] at hF
  simp only [cells_agg] at hH
  refine c_sg ?_
  refine zl hF rfl (r_fieldaddr0 hF rfl rfl fd65_0) fun a hF => ?_
  refine zl hF rfl (r_load hF rfl rfl fl5 (own_cell (i := 1) hH rfl rfl)) fun a hF => ?_
  refine zl hF rfl (r_fieldaddr0 hF rfl rfl fd65_0) fun a hF => ?_
  refine zl hF rfl (r_load hF rfl rfl fl5 (own_cell (i := 0) hH rfl rfl)) fun a hF => ?_
  refine zb hF rfl rfl rfl (b_eqn _ _ _ _) fun a hF => ?_
  refine zm 1 hF rfl fun a hF => ?_
  refine l_ask (d := 10) hF rfl (fun g1_5 => ?_) (fun g1_5 => ?_)
  ·
   have g1_5' := g1_5; try simp only [qq] at g1_5'
   refine zn hF rfl g1_5 fun a hF => ?_
   refine zn hF rfl g1_5 fun a hF => ?_
   refine zn hF rfl g1_5 fun a hF => ?_
   refine zn hF rfl g1_5 fun a hF => ?_
   refine zn hF rfl g1_5 fun a hF => ?_
   refine zl hF rfl (r_pickf hF rfl rfl g1_5 rfl) fun a hF => ?_
   refine zm 1 hF rfl fun a hF => ?_
   refine zn hF rfl rfl fun a hF => ?_
   refine zn hF rfl rfl fun a hF => ?_
   refine zn hF rfl rfl fun a hF => ?_
   refine zn hF rfl rfl fun a hF => ?_
   refine zn hF rfl rfl fun a hF => ?_
   refine zl hF rfl (r_pickf hF rfl rfl rfl rfl) fun a hF => ?_
   refine zm 1 hF rfl fun a hF => ?_
   refine c_n ?_
   replace hF := hF.sel [4]
   simp only [ss, Nat.reduceBEq] at hF
   refine wp_ret (hret (ret1 hF Tryz.results47 rfl ?_))
   exact ⟨by congr 1; simp_all [verd_eq], hH.below⟩
  have g1_5' := g1_5; try simp only [qq] at g1_5'
  refine zy hF rfl g1_5 (r_fieldaddr0 hF rfl rfl fd65_1) fun a hF => ?_
  refine zy hF rfl g1_5 (r_load hF rfl rfl fl22 (own_cell (i := 1) hH rfl rfl)) fun a hF => ?_
  refine zy hF rfl g1_5 (r_fieldaddr0 hF rfl rfl fd65_1) fun a hF => ?_
  refine zy hF rfl g1_5 (r_load hF rfl rfl fl22 (own_cell (i := 0) hH rfl rfl)) fun a hF => ?_
  refine zyc hF rfl g1_5 rfl fn89 (equalF_spec x.sets y.sets sv tv _ (hR.sets.ext hH.below) (hS.sets.ext hH.below) hx.setsL hy.setsL hx.sets hy.sets) ?_
  rintro _ w ⟨rfl, hE⟩ a hF
  replace hH := hH.ext hE
  refine zl hF rfl (r_pickt hF rfl rfl g1_5 rfl) fun a hF => ?_
  refine zm 1 hF rfl fun a hF => ?_
  refine l_ask (d := 17) hF rfl (fun g1_12 => ?_) (fun g1_12 => ?_)
  ·
   have g1_12' := g1_12; try simp only [qq] at g1_12'
   refine zn hF rfl g1_12 fun a hF => ?_
   refine zn hF rfl g1_12 fun a hF => ?_
   refine zn hF rfl g1_12 fun a hF => ?_
   refine zn hF rfl g1_12 fun a hF => ?_
   refine zn hF rfl g1_12 fun a hF => ?_
   refine zl hF rfl (r_pickf hF rfl rfl g1_12 rfl) fun a hF => ?_
   refine zm 1 hF rfl fun a hF => ?_
   refine c_n ?_
   replace hF := hF.sel [4]
   simp only [ss, Nat.reduceBEq] at hF
   refine wp_ret (hret (ret1 hF Tryz.results47 rfl ?_))
   exact ⟨by congr 1; simp_all [verd_eq], hH.below⟩
  have g1_12' := g1_12; try simp only [qq] at g1_12'
  refine zy hF rfl g1_12 (r_fieldaddr0 hF rfl rfl fd65_2) fun a hF => ?_
  refine zy hF rfl g1_12 (r_load hF rfl rfl fl22 (own_cell (i := 1) hH rfl rfl)) fun a hF => ?_
  refine zy hF rfl g1_12 (r_fieldaddr0 hF rfl rfl fd65_2) fun a hF => ?_
  refine zy hF rfl g1_12 (r_load hF rfl rfl fl22 (own_cell (i := 0) hH rfl rfl)) fun a hF => ?_
  refine zyc hF rfl g1_12 rfl fn89 (equalF_spec x.soa y.soa ov pv _ (hR.soa.ext hH.below) (hS.soa.ext hH.below) hx.soaL hy.soaL hx.soa hy.soa) ?_
  rintro _ w ⟨rfl, hE⟩ a hF
  replace hH := hH.ext hE
  refine zl hF rfl (r_pickt hF rfl rfl g1_12 rfl) fun a hF => ?_
  refine zm 1 hF rfl fun a hF => ?_
  refine c_n ?_
  replace hF := hF.sel [4]
  simp only [ss, Nat.reduceBEq] at hF
  refine wp_ret (hret (ret1 hF Tryz.results47 rfl ?_))
  exact ⟨by congr 1; simp_all [verd_eq], hH.below⟩
theorem vsame11_spec (x y : Verd) (sv ov tv pv : Value) (w0 : World) (hR : VerdR w0 x sv ov) (hS : VerdR w0 y tv pv) (hx : VerdM x) (hy : VerdM y) :
    Rets Tryz.prog 43 [.agg (verdV x sv ov).toArray, .agg (verdV y tv pv).toArray] w0 fun v w' => v = .bool (decide (x = y)) ∧ Ext w0 w' := by
  have hH := Hp.refl w0
  refine rets_start Tryz.func43 rfl Tryz.ntmps43 rfl fun a Q0 hF hret hend => ?_
  simp only [argsFrom, Nat.zero_add, Nat.reduceAdd] at hF
  refine c_sr fun ops => ?_
  refine ls_box hF hH rfl rfl rfl rfl rfl ?_
  intro a w g0_0 hH hE hF
  refine ls_box hF hH rfl rfl rfl rfl rfl ?_
  intro a w g0_1 hH hE hF
  refine zm 1 hF rfl fun a hF => ?_
  refine c_n ?_
  replace hF := hF.sel [2, 3]
  simp only [ss, Nat.reduceBEq] at hF
  simp only [cells_agg] at hH
  refine c_sg ?_
  refine zl hF rfl (r_fieldaddr0 hF rfl rfl fd65_0) fun a hF => ?_
  refine zl hF rfl (r_load hF rfl rfl fl5 (own_cell (i := 1) hH rfl rfl)) fun a hF => ?_
  refine zl hF rfl (r_fieldaddr0 hF rfl rfl fd65_0) fun a hF => ?_
  refine zl hF rfl (r_load hF rfl rfl fl5 (own_cell (i := 0) hH rfl rfl)) fun a hF => ?_
  refine zb hF rfl rfl rfl (b_eqn _ _ _ _) fun a hF => ?_
  refine zm 1 hF rfl fun a hF => ?_
  refine l_ask (d := 10) hF rfl (fun g1_5 => ?_) (fun g1_5 => ?_)
  ·
   have g1_5' := g1_5; try simp only [qq] at g1_5'
   refine zn hF rfl g1_5 fun a hF => ?_
   refine zn hF rfl g1_5 fun a hF => ?_
   refine zn hF rfl g1_5 fun a hF => ?_
   refine zn hF rfl g1_5 fun a hF => ?_
   refine zn hF rfl g1_5 fun a hF => ?_
   refine zl hF rfl (r_pickf hF rfl rfl g1_5 rfl) fun a hF => ?_
   refine zm 1 hF rfl fun a hF => ?_
   refine zn hF rfl rfl fun a hF => ?_
   refine zn hF rfl rfl fun a hF => ?_
   refine zn hF rfl rfl fun a hF => ?_
   refine zn hF rfl rfl fun a hF => ?_
   refine zn hF rfl rfl fun a hF => ?_
   refine zl hF rfl (r_pickf hF rfl rfl rfl rfl) fun a hF => ?_
   refine zm 1 hF rfl fun a hF => ?_
   refine c_n ?_
   replace hF := hF.sel [4]
   simp only [ss, Nat.reduceBEq] at hF
   refine wp_ret (hret (ret1 hF Tryz.results43 rfl ?_))
   exact ⟨by congr 1; simp_all [verd_eq], hH.below⟩
  have g1_5' := g1_5; try simp only [qq] at g1_5'
  refine zy hF rfl g1_5 (r_fieldaddr0 hF rfl rfl fd65_1) fun a hF => ?_
  refine zy hF rfl g1_5 (r_load hF rfl rfl fl22 (own_cell (i := 1) hH rfl rfl)) fun a hF => ?_
  refine zy hF rfl g1_5 (r_fieldaddr0 hF rfl rfl fd65_1) fun a hF => ?_
  refine zy hF rfl g1_5 (r_load hF rfl rfl fl22 (own_cell (i := 0) hH rfl rfl)) fun a hF => ?_
  refine zyc hF rfl g1_5 rfl fn25 (sameAll_spec x.sets y.sets sv tv _ (hR.sets.ext hH.below) (hS.sets.ext hH.below) hx.setsL hy.setsL hx.sets hy.sets) ?_
  rintro _ w ⟨rfl, hE⟩ a hF
  replace hH := hH.ext hE
  refine zl hF rfl (r_pickt hF rfl rfl g1_5 rfl) fun a hF => ?_
  refine zm 1 hF rfl fun a hF => ?_
  refine l_ask (d := 17) hF rfl (fun g1_12 => ?_) (fun g1_12 => ?_)
  ·
   have g1_12' := g1_12; try simp only [qq] at g1_12'
   refine zn hF rfl g1_12 fun a hF => ?_
   refine zn hF rfl g1_12 fun a hF => ?_
   refine zn hF rfl g1_12 fun a hF => ?_
   refine zn hF rfl g1_12 fun a hF => ?_
   refine zn hF rfl g1_12 fun a hF => ?_
   refine zl hF rfl (r_pickf hF rfl rfl g1_12 rfl) fun a hF => ?_
   refine zm 1 hF rfl fun a hF => ?_
   refine c_n ?_
   replace hF := hF.sel [4]
   simp only [ss, Nat.reduceBEq] at hF
   refine wp_ret (hret (ret1 hF Tryz.results43 rfl ?_))
   exact ⟨by congr 1; simp_all [verd_eq], hH.below⟩
  have g1_12' := g1_12; try simp only [qq] at g1_12'
  refine zy hF rfl g1_12 (r_fieldaddr0 hF rfl rfl fd65_2) fun a hF => ?_
  refine zy hF rfl g1_12 (r_load hF rfl rfl fl22 (own_cell (i := 1) hH rfl rfl)) fun a hF => ?_
  refine zy hF rfl g1_12 (r_fieldaddr0 hF rfl rfl fd65_2) fun a hF => ?_
  refine zy hF rfl g1_12 (r_load hF rfl rfl fl22 (own_cell (i := 0) hH rfl rfl)) fun a hF => ?_
  refine zyc hF rfl g1_12 rfl fn25 (sameAll_spec x.soa y.soa ov pv _ (hR.soa.ext hH.below) (hS.soa.ext hH.below) hx.soaL hy.soaL hx.soa hy.soa) ?_
  rintro _ w ⟨rfl, hE⟩ a hF
  replace hH := hH.ext hE
  refine zl hF rfl (r_pickt hF rfl rfl g1_12 rfl) fun a hF => ?_
  refine zm 1 hF rfl fun a hF => ?_
  refine c_n ?_
  replace hF := hF.sel [4]
  simp only [ss, Nat.reduceBEq] at hF
  refine wp_ret (hret (ret1 hF Tryz.results43 rfl ?_))
  exact ⟨by congr 1; simp_all [verd_eq], hH.below⟩
end Go.Proofs.YtcelgjabccgnmaaGreatDoor
