/-
  The walk of name.Compare; copies of rows of texts; the first number that is not 0; where a text stands in a rising row. Nothing is claimed here.
  Operations on numbers' bits, at the numbers that the program asks them of. Nothing is claimed here.
  The walk of slices.BinarySearch. Nothing is claimed here.
-/
import Derived.Test.YtcelgjabccgnmaaGreatDoorInsert
import Derived.Test.YtcelgjabccgnmaaGreatDoorRef1
import Derived.Laws.BitsLemmas
namespace Go.Proofs.YtcelgjabccgnmaaGreatDoor
open Go.RowKit
set_option linter.unusedVariables false
set_option linter.unusedSimpArgs false
set_option maxHeartbeats 1000000

/-- What a call has made joins what is one's own. -/
theorem Hp.join {w0 w w' : World} {H B : List (Nat × Obj)} (h : Hp w0 w H) (hB : Hp w w' B) : Hp w0 w' (B ++ H) := by
  have h' := h.ext hB.below
  refine ⟨h'.below, fun p hp => ?_, ?_⟩
  · rcases List.mem_append.1 hp with hp | hp
    · have := hB.own p hp
      exact ⟨this.1, Nat.le_trans h.below.size this.2⟩
    · exact h'.own p hp
  · rw [List.map_append, List.nodup_append]
    refine ⟨hB.nodup, h.nodup, fun a ha b hb e => ?_⟩
    obtain ⟨p, hp, rfl⟩ := List.mem_map.1 ha
    obtain ⟨q, hq, rfl⟩ := List.mem_map.1 hb
    have h1 := (hB.own p hp).2
    have h2 := (Array.getElem?_eq_some_iff.1 (h.own q hq).1).1
    omega

theorem bcmp_cases (x y : Bs) : bcmp x y = -1 ∨ bcmp x y = 0 ∨ bcmp x y = 1 := by
  unfold bcmp; split
  · exact .inl rfl
  · split
    · exact .inr (.inr rfl)
    · exact .inr (.inl rfl)
theorem lcmp_cases : ∀ (x y : List Bs), lcmp x y = -1 ∨ lcmp x y = 0 ∨ lcmp x y = 1
  | [], [] => .inr (.inl rfl)
  | [], _ :: _ => .inl rfl
  | _ :: _, [] => .inr (.inr rfl)
  | x :: xs, y :: ys => by
    unfold lcmp; split
    · exact lcmp_cases xs ys
    · exact bcmp_cases x y
theorem icmp_lcmp (x y : List Bs) : icmp (lcmp x y) 0 = lcmp x y := by
  rcases lcmp_cases x y with h | h | h <;> rw [h] <;> rfl

theorem ncompare_spec (l m : Bs) (hl : l.length < 1000000) (hm : m.length < 1000000) (w0 : World) : Rets Tryz.prog 94 [.string (mk l), .string (mk m)] w0 fun v w' => v = .int .i64 (ncmp l m) ∧ Ext w0 w' := by
  have hH := Hp.refl w0
  refine rets_start Tryz.func94 rfl Tryz.ntmps94 rfl fun a Q0 hF hret hend => ?_
  simp only [argsFrom, Nat.zero_add, Nat.reduceAdd] at hF
  refine c_sr fun ops => ?_
  refine zm 1 hF rfl fun a hF => ?_
  refine c_n ?_
  replace hF := hF.sel [0, 1]
  simp only [ss, Nat.reduceBEq] at hF
  refine c_sr fun ops => ?_
  refine zm 1 hF rfl fun a hF => ?_
  refine zc hF rfl rfl fn81 (all_spec l (by omega) _) ?_
  rintro _ w ⟨sv, B, rfl, hB, hS⟩ a hF
  replace hH := hH.join hB
  refine zm 5 hF rfl fun a hF => ?_
  refine c_n ?_
  replace hF := hF.sel [1, 5, 6]
  simp only [ss, Nat.reduceBEq] at hF
  refine c_sr fun ops => ?_
  refine zm 1 hF rfl fun a hF => ?_
  refine zc hF rfl rfl fn81 (all_spec m (by omega) _) ?_
  rintro _ w ⟨sv2, B2, rfl, hB2, hS2⟩ a hF
  replace hH := hH.join hB2
  refine zm 5 hF rfl fun a hF => ?_
  refine c_n ?_
  replace hF := hF.sel [5, 6, 7, 8]
  simp only [ss, Nat.reduceBEq] at hF
  refine c_seq fun Q1 k1 t1 => ?_
  refine c_sg ?_
  refine zm 1 hF rfl fun a hF => ?_
  refine zl hF rfl (r_not hF rfl rfl) fun a hF => ?_
  refine zm 1 hF rfl fun a hF => ?_
  refine ls_ask (d := 21) hF rfl (fun g3_2 => ?_) (fun g3_2 => ?_)
  ·
   have g3_2' := g3_2; try simp only [qq] at g3_2'
   refine zn hF rfl g3_2 fun a hF => ?_
   refine zn hF rfl g3_2 fun a hF => ?_
   refine zl hF rfl (r_pickt hF rfl rfl g3_2 rfl) fun a hF => ?_
   refine c_n ?_
   replace hF := hF.sel [5, 7, 24]
   simp only [ss, Nat.reduceBEq] at hF
   refine c_yes hF rfl rfl ?_
   refine c_sr fun ops => ?_
   refine zm 1 hF rfl fun a hF => ?_
   refine c_n ?_
   replace hF := hF.sel [4]
   simp only [ss, Nat.reduceBEq] at hF
   refine wp_ret (t1.ret (hret (ret1 hF Tryz.results94 rfl ?_)))
   exact ⟨by rw [ncmp_no (by simp_all)], hH.below⟩
  have g3_2' := g3_2; try simp only [qq] at g3_2'
  refine zy hF rfl g3_2 (r_move hF rfl rfl) fun a hF => ?_
  refine zy hF rfl g3_2 (r_not hF rfl rfl) fun a hF => ?_
  refine zl hF rfl (r_pickf hF rfl rfl g3_2 rfl) fun a hF => ?_
  refine c_n ?_
  replace hF := hF.sel [5, 7, 24]
  simp only [ss, Nat.reduceBEq] at hF
  refine c_if hF rfl (fun h24 => ?_) (fun h24 => ?_)
  ·
   try simp only [qq] at h24
   refine c_sr fun ops => ?_
   refine zm 1 hF rfl fun a hF => ?_
   refine c_n ?_
   replace hF := hF.sel [4]
   simp only [ss, Nat.reduceBEq] at hF
   refine wp_ret (t1.ret (hret (ret1 hF Tryz.results94 rfl ?_)))
   exact ⟨by rw [ncmp_no (by simp_all)], hH.below⟩
  try simp only [qq] at h24
  obtain ⟨xs, hxs⟩ : ∃ acc, split l = some acc := Option.isSome_iff_exists.1 (show (split l).isSome = true by simp_all [mayB])
  obtain ⟨ys, hys⟩ : ∃ acc, split m = some acc := Option.isSome_iff_exists.1 (show (split m).isSome = true by simp_all [mayB])
  have hn : ncmp l m = lcmp (xs.map low).reverse (ys.map low).reverse := by rw [ncmp, hxs, hys]
  have hlx := split_le hxs
  have hly := split_le hys
  rw [hxs] at hS
  rw [hys] at hS2
  simp only [Option.getD_some] at hS hS2
  refine wp_skip ?_
  refine k1 ?_
  refine c_sr fun ops => ?_
  refine zm 1 hF rfl fun a hF => ?_
  refine zc hF rfl rfl fn124 (reverse_spec (H := B2) (B := B) (by simpa using hH.perm List.perm_append_comm) hS (strV_one _) (by omega)) ?_
  rintro _ w ⟨rfl, B', hH, hS⟩ a hF
  refine c_n ?_
  replace hF := hF.sel [5, 7]
  simp only [ss, Nat.reduceBEq] at hF
  refine c_sr fun ops => ?_
  refine zm 1 hF rfl fun a hF => ?_
  refine zc hF rfl rfl fn124 (reverse_spec (H := B') (B := B2) (hH.perm List.perm_append_comm) hS2 (strV_one _) (by omega)) ?_
  rintro _ w ⟨rfl, B2', hH, hS2⟩ a hF
  refine c_n ?_
  replace hF := hF.sel [5, 7]
  simp only [ss, Nat.reduceBEq] at hF
  refine c_sr fun ops => ?_
  refine zm 2 hF rfl fun a hF => ?_
  refine zc hF rfl rfl fn126 (compare_spec (xs := (xs.map low).reverse) (ys := (ys.map low).reverse) (by simpa [strV, List.map_reverse] using hS.rsl hH fun p hp => List.mem_append_right _ hp) (by simpa [strV, List.map_reverse] using hS2.rsl hH fun p hp => List.mem_append_left _ hp) (by omega) (by omega)) ?_
  rintro _ w ⟨rfl, hE⟩ a hF
  replace hH := hH.ext hE
  refine zc hF rfl rfl fn125 (cmpi_spec _ _ _) ?_
  rintro _ w ⟨rfl, hE⟩ a hF
  replace hH := hH.ext hE
  refine zm 1 hF rfl fun a hF => ?_
  refine c_n ?_
  replace hF := hF.sel [4]
  simp only [ss, Nat.reduceBEq] at hF
  refine wp_ret (hret (ret1 hF Tryz.results94 rfl ?_))
  exact ⟨by rw [hn, icmp_lcmp], hH.below⟩

theorem clone_spec {w0 : World} {v : Value} {n : Nat} {xs : List Bs} (hv : RSl w0 1 v n (strV xs)) (hn : n < 1000000) :
    Rets Tryz.prog 53 [v] w0 fun r w' => ∃ B, Hp w0 w' B ∧ Sl 9 1 B r n (strV xs) := by
  have hH := Hp.refl w0
  have hv' := hv
  obtain ⟨hx, ad, cp, rfl, hnc, hcm, had⟩ := hv
  refine rets_start Tryz.func53 rfl Tryz.ntmps53 rfl fun a Q0 hF hret hend => ?_
  simp only [argsFrom, Nat.zero_add, Nat.reduceAdd] at hF
  refine c_sr fun ops => ?_
  refine zm 1 hF rfl fun a hF => ?_
  refine c_n ?_
  replace hF := hF.sel [0]
  simp only [ss, Nat.reduceBEq] at hF
  refine c_seq fun Q1 k1 t1 => ?_
  refine c_sr fun ops => ?_
  refine zm 1 hF rfl fun a hF => ?_
  refine zb hF rfl rfl rfl (b_slnil Tryz.underlying25) fun a hF => ?_
  refine c_n ?_
  replace hF := hF.sel [0, 4]
  simp only [ss, Nat.reduceBEq] at hF
  refine c_if hF rfl (fun h4 => ?_) (fun h4 => ?_)
  ·
   try simp only [qq] at h4
   have hd : ad = none := by simpa using h4
   subst hd
   refine c_sr fun ops => ?_
   refine zm 1 hF rfl fun a hF => ?_
   refine c_n ?_
   replace hF := hF.sel [2]
   simp only [ss, Nat.reduceBEq] at hF
   refine wp_ret (t1.ret (hret (ret1 hF Tryz.results53 rfl ?_)))
   rcases had with ⟨_, _, rfl⟩ | ⟨b, off, h, _⟩
   · have : xs = [] := List.eq_nil_of_length_eq_zero (by simpa [strV] using hx)
     subst this
     exact ⟨[], hH, Sl.nil _ _⟩
   · cases h
  try simp only [qq] at h4
  refine wp_skip ?_
  refine k1 ?_
  refine c_sr fun ops => ?_
  refine ls_buildN (us := []) hF hH rfl rfl rfl rfl rfl rfl Tryz.underlying25 ti9 (fun _ h => (List.not_mem_nil h).elim) (by decide) ?_
  intro a w g3_0 hH hE hF
  have hS : Sl 9 1 [(g3_0, .cells #[] 9 (0, 0))] (.slice (some ⟨g3_0, 0, none⟩) 0 0) 0 [] := ⟨rfl, .inr ⟨g3_0, 0, _, rfl, rfl, Nat.le_refl _, Nat.zero_le _, rfl, rfl⟩⟩
  refine zm 1 hF rfl fun a hF => ?_
  refine ls_append0 hF hH rfl rfl rfl rfl rfl rfl Tryz.underlying25 ti9 hS (hv'.ext hH.below) (strV_one _) (by decide) (by omega) ?_
  intro a v3_2 w B3_2 hH hS hF
  refine zm 1 hF rfl fun a hF => ?_
  refine c_n ?_
  replace hF := hF.sel [2]
  simp only [ss, Nat.reduceBEq] at hF
  refine wp_ret (hret (ret1 hF Tryz.results53 rfl ?_))
  rw [Nat.zero_add, List.nil_append] at hS
  exact ⟨_, hH, hS⟩

theorem orI_drop {xs : List Int} {i : Nat} (h : i < xs.length) : orI (xs.drop i) = if xs.getD i 0 ≠ 0 then xs.getD i 0 else orI (xs.drop (i + 1)) := by
  have e : xs.getD i 0 = xs[i] := by simp [List.getD_eq_getElem?_getD, h]
  rw [e, List.drop_eq_getElem_cons h, orI]
theorem or_spec {w0 : World} {v : Value} {n : Nat} {xs : List Int} (hv : RSl w0 1 v n (xs.map fun x => .int .i64 x)) (hn : n < 1000000) :
    Rets Tryz.prog 93 [v] w0 fun r w' => r = .int .i64 (orI xs) ∧ Ext w0 w' := by
  have hH := Hp.refl w0
  obtain ⟨hx, ad, cp, rfl, hnc, hcm, had⟩ := hv
  have hxl : n = xs.length := by rw [List.length_map] at hx; omega
  subst hxl
  refine rets_start Tryz.func93 rfl Tryz.ntmps93 rfl fun a Q0 hF hret hend => ?_
  simp only [argsFrom, Nat.zero_add, Nat.reduceAdd] at hF
  refine c_sr fun ops => ?_
  refine zm 1 hF rfl fun a hF => ?_
  refine c_n ?_
  replace hF := hF.sel [0]
  simp only [ss, Nat.reduceBEq] at hF
  refine c_sr fun ops => ?_
  refine zm 1 hF rfl fun a hF => ?_
  refine c_n ?_
  replace hF := hF.sel [0, 3]
  simp only [ss, Nat.reduceBEq] at hF
  refine c_seq fun Q1 k1 t1 => ?_
  refine c_sr fun ops => ?_
  refine zm 1 hF rfl fun a hF => ?_
  refine zl hF rfl (r_len_sl hF rfl rfl Tryz.underlying168) fun a hF => ?_
  refine zm 1 hF rfl fun a hF => ?_
  refine c_n ?_
  replace hF := hF.sel [3, 6, 7, 8]
  simp only [ss, Nat.reduceBEq] at hF
  refine c_block fun Q2 t2 => ?_
  refine c_loop (fun n a w => ∃ i, n = xs.length - i ∧ i ≤ xs.length ∧ orI xs = orI (xs.drop i) ∧ Fr 18 [(3, .int .i64 0), (6, .slice ad xs.length cp), (7, .int .i64 xs.length), (8, .int .i64 i)] a ∧ Hp w0 w []) ?_ ?_
  ·
   exact ⟨_, 0, rfl, Nat.zero_le _, rfl, hF.keep [3, 6, 7, 8] rfl, hH⟩
  intro n a w hI Q3 k3 t3
  obtain ⟨i, hn', hi, he, hF, hH⟩ := hI
  refine c_sr fun ops => ?_
  refine zb hF rfl rfl rfl (b_ltn _ _ _ _) fun a hF => ?_
  refine c_n ?_
  refine c_seq fun Q4 k4 t4 => ?_
  refine c_fi hF rfl (fun h9 => ?_) (fun h9 => ?_)
  ·
   try simp only [qq] at h9
   refine wp_exit (t4.exit (t3.exit (t2.here (?_))))
   refine k1 ?_
   refine c_sr fun ops => ?_
   refine zm 2 hF rfl fun a hF => ?_
   refine c_n ?_
   replace hF := hF.sel [2]
   simp only [ss, Nat.reduceBEq] at hF
   refine wp_ret (hret (ret1 hF Tryz.results93 rfl ?_))
   exact ⟨by rw [he, List.drop_eq_nil_of_le (by omega)]; rfl, hH.below⟩
  try simp only [qq] at h9
  obtain ⟨b, off, rfl, hc⟩ : ∃ b off, ad = some ⟨b, off, none⟩ ∧ ∀ j u, (xs.map fun x => Value.int .i64 x)[j]? = some u → w0.cell? ⟨b, off + j, none⟩ = some u := by
    rcases had with ⟨_, _, h0⟩ | h
    · omega
    · exact h
  have hcell := hc i (.int .i64 (xs.getD i 0)) (by simp [List.getD_eq_getElem?_getD, h9])
  refine wp_skip ?_
  refine k4 ?_
  refine c_seq fun Q5 k5 t5 => ?_
  refine c_block fun Q6 t6 => ?_
  refine c_sr fun ops => ?_
  refine zl hF rfl (r_ix1 hF _ rfl rfl rfl Tryz.underlying168 ti3 (by omega)) fun a hF => ?_
  refine zl hF rfl (r_load hF rfl rfl fl3 (hH.cell hcell)) fun a hF => ?_
  refine zm 1 hF rfl fun a hF => ?_
  refine c_n ?_
  refine c_sr fun ops => ?_
  refine zm 2 hF rfl fun a hF => ?_
  refine zb hF rfl rfl rfl (b_ne _ _ _ _) fun a hF => ?_
  refine c_n ?_
  refine c_if hF rfl (fun h14 => ?_) (fun h14 => ?_)
  ·
   try simp only [qq] at h14
   refine c_sr fun ops => ?_
   refine zm 2 hF rfl fun a hF => ?_
   refine c_n ?_
   refine wp_ret (t6.ret (t5.ret (t3.ret (t2.ret (t1.ret (hret (ret1 hF Tryz.results93 rfl ?_)))))))
   exact ⟨by rw [he, orI_drop h9, if_pos h14], hH.below⟩
  try simp only [qq] at h14
  refine wp_skip ?_
  refine t6.norm ?_
  refine k5 ?_
  refine c_reg fun ops => ?_
  refine zb hF rfl rfl rfl (b_addn _ _ 1 (by omega)) fun a hF => ?_
  refine zm 1 hF rfl fun a hF => ?_
  refine wpList_nil ?_
  refine k3 ?_
  exact ⟨xs.length - (i + 1), by omega, i + 1, rfl, by omega, by rw [he, orI_drop h9, if_neg (fun h => h h14)], hF.keep [3, 6, 7, 8] rfl, hH⟩

/-- Data that rise. -/
def Rising : List Bs → Prop
  | [] => True
  | [_] => True
  | x :: y :: xs => bless x y = true ∧ Rising (y :: xs)
/-- How many stand ahead of a text. -/
def below (xs : List Bs) (y : Bs) : Nat := (xs.takeWhile fun x => bless x y).length
end Go.Proofs.YtcelgjabccgnmaaGreatDoor
namespace Go.Proofs.YtcelgjabccgnmaaGreatDoor
open Go.RowKit
set_option linter.unusedVariables false
set_option linter.unusedSimpArgs false
set_option maxHeartbeats 1000000
section
variable {P : Program} {w : World}
theorem b_shr1 (t : TypeId) (n : Nat) : (binOp .shr t (.int .u64 (n : Int)) (.int .u64 1)).run P w = .ok (.int .u64 ((n / 2 : Nat) : Int)) w := by
  simp [go_sem]
theorem b_shl8 (t : TypeId) (n : Nat) (h : n < 1000000000) : (binOp .shl t (.int .i64 (n : Int)) (.int .u64 8)).run P w = .ok (.int .i64 ((n * 256 : Nat) : Int)) w := by
  simp [go_sem]; rw [IntWalk.i64_in _ (by omega)]
theorem b_shl8u (t : TypeId) (n : Nat) (h : n < 16777216) : (binOp .shl t (.int .u32 (n : Int)) (.int .u64 8)).run P w = .ok (.int .u32 ((n * 256 : Nat) : Int)) w := by
  simp [go_sem]; rw [IntWalk.u32_in _ (by omega)]
theorem and192 : ∀ n : Fin 256, bits .and .u8 ((n.val : Nat) : Int) 192 = ((n.val / 64 * 64 : Nat) : Int) := by decide +kernel
theorem andNot192 : ∀ n : Fin 256, bits .andNot .u8 ((n.val : Nat) : Int) 192 = ((n.val % 64 : Nat) : Int) := by decide +kernel
theorem b_and192 (t : TypeId) (n : Nat) (h : n < 256) : (binOp .and t (.int .u8 (n : Int)) (.int .u8 192)).run P w = .ok (.int .u8 ((n / 64 * 64 : Nat) : Int)) w := by
  simp [go_sem]; exact and192 ⟨n, h⟩
theorem b_andNot192 (t : TypeId) (n : Nat) (h : n < 256) : (binOp .andNot t (.int .u8 (n : Int)) (.int .u8 192)).run P w = .ok (.int .u8 ((n % 64 : Nat) : Int)) w := by
  have := andNot192 ⟨n, h⟩
  simp only at this
  simp [go_sem, this]
theorem b_orj (t : TypeId) (n m : Nat) (h : n < 1000000) (hm : m < 256) : (binOp .or t (.int .i64 ((n * 256 : Nat) : Int)) (.int .i64 (m : Int))).run P w = .ok (.int .i64 ((n * 256 + m : Nat) : Int)) w := by
  have := bits_join .i64 40 (by decide) (fun n h1 h2 => IntWalk.i64_in n (by omega)) 8 (x := ((n * 256 : Nat) : Int)) (y := (m : Int)) (by omega) (by omega) (by omega) (by omega) (by omega) (by omega)
  simp [go_sem]; simpa using this
theorem b_orju (t : TypeId) (n m : Nat) (h : n < 16777216) (hm : m < 256) : (binOp .or t (.int .u32 ((n * 256 : Nat) : Int)) (.int .u32 (m : Int))).run P w = .ok (.int .u32 ((n * 256 + m : Nat) : Int)) w := by
  have := bits_join .u32 32 (by decide) (fun n h1 h2 => IntWalk.u32_in n (by omega)) 8 (x := ((n * 256 : Nat) : Int)) (y := (m : Int)) (by omega) (by omega) (by omega) (by omega) (by omega) (by omega)
  simp [go_sem]; simpa using this
theorem b_mulk (t : TypeId) (n m : Nat) (h : n * m < 1000000000) : (binOp .mul t (.int .i64 (n : Int)) (.int .i64 (m : Int))).run P w = .ok (.int .i64 ((n * m : Nat) : Int)) w := by
  have : (n : Int) * m = ((n * m : Nat) : Int) := by simp
  simp [go_sem]; rw [this, IntWalk.i64_in _ (by omega)]
theorem b_remk (t : TypeId) (n m : Nat) (h : 0 < m) : (binOp .rem t (.int .i64 (n : Int)) (.int .i64 (m : Int))).run P w = .ok (.int .i64 ((n % m : Nat) : Int)) w := by
  have : ¬ m = 0 := by omega
  simp [go_sem, this]; exact Int.ofNat_tmod n m
theorem b_remu (t : TypeId) (n m : Nat) (h : 0 < m) : (binOp .rem t (.int .u64 (n : Int)) (.int .u64 (m : Int))).run P w = .ok (.int .u64 ((n % m : Nat) : Int)) w := by
  have : ¬ m = 0 := by omega
  simp [go_sem, this]; exact Int.ofNat_tmod n m
end
end Go.Proofs.YtcelgjabccgnmaaGreatDoor
namespace Go.Proofs.YtcelgjabccgnmaaGreatDoor
open Go.RowKit
set_option linter.unusedVariables false
set_option linter.unusedSimpArgs false
set_option maxHeartbeats 1000000

theorem search_spec {w0 : World} {v : Value} {nn : Nat} {xs : List Bs} (y : Bs) (hv : RSl w0 1 v nn (strV xs)) (hn : nn < 1000000)
    (hmono : ∀ a b, a ≤ b → b < xs.length → bless (xs.getD b []) y = true → bless (xs.getD a []) y = true) :
    Rets Tryz.prog 62 [v, .string (mk y)] w0 fun r w' => (∃ i : Nat, r = .tuple #[.int .i64 i, .bool (decide (i < xs.length) && decide (xs.getD i [] = y))] ∧ i ≤ xs.length ∧ (∀ k < i, bless (xs.getD k []) y = true) ∧ (∀ k, i ≤ k → k < xs.length → bless (xs.getD k []) y = false)) ∧ Ext w0 w' := by
  have hH := Hp.refl w0
  obtain ⟨ad, cp, rfl⟩ := hv.shape
  have hln := hv.nlen
  subst hln
  refine rets_start Tryz.func62 rfl Tryz.ntmps62 rfl fun a Q0 hF hret hend => ?_
  simp only [argsFrom, Nat.zero_add, Nat.reduceAdd] at hF
  refine c_sr fun ops => ?_
  refine zm 2 hF rfl fun a hF => ?_
  refine c_n ?_
  replace hF := hF.sel [0, 1]
  simp only [ss, Nat.reduceBEq] at hF
  refine c_sr fun ops => ?_
  refine zm 1 hF rfl fun a hF => ?_
  refine zl hF rfl (r_len_sl hF rfl rfl Tryz.underlying25) fun a hF => ?_
  refine zm 1 hF rfl fun a hF => ?_
  refine c_n ?_
  replace hF := hF.sel [0, 1, 6]
  simp only [ss, Nat.reduceBEq] at hF
  refine c_sr fun ops => ?_
  refine zm 3 hF rfl fun a hF => ?_
  refine c_n ?_
  replace hF := hF.sel [0, 1, 6, 7, 8]
  simp only [ss, Nat.reduceBEq] at hF
  refine c_seq fun Q1 k1 t1 => ?_
  refine c_block fun Q2 t2 => ?_
  refine c_loop (fun n a w => ∃ i j, n = j - i ∧ i ≤ j ∧ j ≤ xs.length ∧ (∀ k < i, bless (xs.getD k []) y = true) ∧ (∀ k, j ≤ k → k < xs.length → bless (xs.getD k []) y = false) ∧ Fr 54 [(0, .slice ad xs.length cp), (1, .string (mk y)), (6, .int .i64 xs.length), (7, .int .i64 (i : Nat)), (8, .int .i64 (j : Nat))] a ∧ Hp w0 w []) ?_ ?_
  ·
   exact ⟨_, 0, xs.length, rfl, Nat.zero_le _, Nat.le_refl _, fun _ h => (Nat.not_lt_zero _ h).elim, fun k h1 h2 => by omega, hF.keep [0, 1, 6, 7, 8] rfl, hH⟩
  intro n a w hI Q3 k3 t3
  obtain ⟨i, j, hn', hij, hj, hlo, hhi, hF, hH⟩ := hI
  refine c_seq fun Q4 k4 t4 => ?_
  refine c_sr fun ops => ?_
  refine zm 2 hF rfl fun a hF => ?_
  refine zb hF rfl rfl rfl (b_ltn _ _ _ _) fun a hF => ?_
  refine c_n ?_
  refine c_if hF rfl (fun h15 => ?_) (fun h15 => ?_)
  ·
   try simp only [qq] at h15
   obtain ⟨b, off, rfl, hc⟩ := hv.at (i := (i + j) / 2) (by omega)
   refine wp_skip ?_
   refine k4 ?_
   refine c_block fun Q5 t5 => ?_
   refine c_sr fun ops => ?_
   refine zm 2 hF rfl fun a hF => ?_
   refine zb hF rfl rfl rfl (b_addn _ _ _ (by omega)) fun a hF => ?_
   refine zl hF rfl (r_convin hF rfl rfl (by rw [Tryz.underlying3]; rfl) Tryz.underlying78 (0) 18446744073709551615 mn_u64 mx_u64 (by omega)) fun a hF => ?_
   refine zb hF rfl rfl rfl (b_shr1 _ _) fun a hF => ?_
   refine zl hF rfl (r_convin hF rfl rfl (by rw [Tryz.underlying78]; rfl) Tryz.underlying3 (-9223372036854775808) 9223372036854775807 mn_i64 mx_i64 (by omega)) fun a hF => ?_
   refine zm 1 hF rfl fun a hF => ?_
   refine c_n ?_
   refine c_sr fun ops => ?_
   refine zm 2 hF rfl fun a hF => ?_
   refine zl hF rfl (r_ix1 hF _ rfl rfl rfl Tryz.underlying25 ti9 (by omega)) fun a hF => ?_
   refine zl hF rfl (r_load hF rfl rfl fl9 (hH.cell hc)) fun a hF => ?_
   refine zm 1 hF rfl fun a hF => ?_
   refine zc hF rfl rfl fn98 (lesss_spec _ _ _) ?_
   rintro _ w ⟨rfl, hE⟩ a hF
   replace hH := hH.ext hE
   refine c_n ?_
   refine c_fi hF rfl (fun h27 => ?_) (fun h27 => ?_)
   ·
    try simp only [qq] at h27
    refine c_reg fun ops => ?_
    refine zm 2 hF rfl fun a hF => ?_
    refine wpList_nil ?_
    refine t5.norm ?_
    refine k3 ?_
    first
      | exact ⟨j - ((i + j) / 2 + 1), by omega, (i + j) / 2 + 1, j, rfl, by omega, hj, fun k hk => hmono k ((i + j) / 2) (by omega) (by omega) h27, hhi, hF.keep [0, 1, 6, 7, 8] rfl, hH⟩
      | exact ⟨(i + j) / 2 - i, by omega, i, (i + j) / 2, rfl, by omega, by omega, hlo, fun k hk1 hk2 => Bool.eq_false_iff.2 fun hb => (Bool.eq_false_iff.1 h27) (hmono ((i + j) / 2) k hk1 hk2 hb), hF.keep [0, 1, 6, 7, 8] rfl, hH⟩
   try simp only [qq] at h27
   refine c_reg fun ops => ?_
   refine zm 1 hF rfl fun a hF => ?_
   refine zb hF rfl rfl rfl (b_addn _ _ 1 (by omega)) fun a hF => ?_
   refine zm 1 hF rfl fun a hF => ?_
   refine wpList_nil ?_
   refine t5.norm ?_
   refine k3 ?_
   first
     | exact ⟨j - ((i + j) / 2 + 1), by omega, (i + j) / 2 + 1, j, rfl, by omega, hj, fun k hk => hmono k ((i + j) / 2) (by omega) (by omega) h27, hhi, hF.keep [0, 1, 6, 7, 8] rfl, hH⟩
     | exact ⟨(i + j) / 2 - i, by omega, i, (i + j) / 2, rfl, by omega, by omega, hlo, fun k hk1 hk2 => Bool.eq_false_iff.2 fun hb => (Bool.eq_false_iff.1 h27) (hmono ((i + j) / 2) k hk1 hk2 hb), hF.keep [0, 1, 6, 7, 8] rfl, hH⟩
  try simp only [qq] at h15
  refine wp_exit (t4.exit (t3.exit (t2.here (?_))))
  refine k1 ?_
  have hij' : i = j := by omega
  subst hij'
  refine c_sg ?_
  refine zm 3 hF rfl fun a hF => ?_
  refine zb hF rfl rfl rfl (b_ltn _ _ _ _) fun a hF => ?_
  refine zm 1 hF rfl fun a hF => ?_
  refine l_ask (d := 35) hF rfl (fun g8_4 => ?_) (fun g8_4 => ?_)
  ·
   have g8_4' := g8_4; try simp only [qq] at g8_4'
   refine zn hF rfl g8_4 fun a hF => ?_
   refine zn hF rfl g8_4 fun a hF => ?_
   refine zn hF rfl g8_4 fun a hF => ?_
   refine zn hF rfl g8_4 fun a hF => ?_
   refine zn hF rfl g8_4 fun a hF => ?_
   refine zn hF rfl g8_4 fun a hF => ?_
   refine zn hF rfl g8_4 fun a hF => ?_
   refine lsu hF rfl rfl rfl rfl rfl fun a hF => ?_
   refine lsu hF rfl rfl rfl rfl rfl fun a hF => ?_
   refine lsu hF rfl rfl rfl rfl rfl fun a hF => ?_
   refine lsu hF rfl rfl rfl rfl rfl fun a hF => ?_
   refine lsu hF rfl rfl rfl rfl rfl fun a hF => ?_
   refine lsu hF rfl rfl rfl rfl rfl fun a hF => ?_
   refine lsu hF rfl rfl rfl rfl rfl fun a hF => ?_
   refine lsu hF rfl rfl rfl rfl rfl fun a hF => ?_
   refine lsu hF rfl rfl rfl rfl rfl fun a hF => ?_
   refine zn hF rfl g8_4 fun a hF => ?_
   refine zl hF rfl (r_pickf hF rfl rfl g8_4 rfl) fun a hF => ?_
   refine zm 2 hF rfl fun a hF => ?_
   refine c_n ?_
   replace hF := hF.sel [4, 5]
   simp only [ss, Nat.reduceBEq] at hF
   refine wp_ret (hret (ret2 hF Tryz.results62 rfl rfl ?_))
   exact ⟨⟨i, by first | (rw [decide_eq_false (show ¬ i < xs.length by omega)]; rfl) | (rw [decide_eq_true (show i < xs.length by omega)]; simp_all; done), by omega, hlo, hhi⟩, hH.below⟩
  have g8_4' := g8_4; try simp only [qq] at g8_4'
  obtain ⟨b, off, rfl, hc⟩ := hv.at (i := i) (by omega)
  refine zy hF rfl g8_4 (r_move hF rfl rfl) fun a hF => ?_
  refine zy hF rfl g8_4 (r_move hF rfl rfl) fun a hF => ?_
  refine zy hF rfl g8_4 (r_ix1 hF _ rfl rfl rfl Tryz.underlying25 ti9 (by omega)) fun a hF => ?_
  refine zy hF rfl g8_4 (r_load hF rfl rfl fl9 (hH.cell hc)) fun a hF => ?_
  refine zy hF rfl g8_4 (r_move hF rfl rfl) fun a hF => ?_
  refine zy hF rfl g8_4 (zr hF rfl rfl (b_seq _ _ _)) fun a hF => ?_
  refine zy hF rfl g8_4 (r_move hF rfl rfl) fun a hF => ?_
  refine ls_ask (d := 42) hF rfl (fun g8_11 => ?_) (fun g8_11 => ?_)
  ·
   have g8_11' := g8_11; try simp only [qq] at g8_11'
   refine zn hF rfl g8_11 fun a hF => ?_
   refine zn hF rfl g8_11 fun a hF => ?_
   refine zn hF rfl g8_11 fun a hF => ?_
   refine zn hF rfl g8_11 fun a hF => ?_
   refine zn hF rfl g8_11 fun a hF => ?_
   refine zn hF rfl g8_11 fun a hF => ?_
   refine lsu hF rfl rfl rfl rfl rfl fun a hF => ?_
   refine lsu hF rfl rfl rfl rfl rfl fun a hF => ?_
   refine zn hF rfl g8_11 fun a hF => ?_
   refine zy hF rfl g8_4 (r_pickt hF rfl rfl g8_11 rfl) fun a hF => ?_
   refine zl hF rfl (r_pickt hF rfl rfl g8_4 rfl) fun a hF => ?_
   refine zm 2 hF rfl fun a hF => ?_
   refine c_n ?_
   replace hF := hF.sel [4, 5]
   simp only [ss, Nat.reduceBEq] at hF
   refine wp_ret (hret (ret2 hF Tryz.results62 rfl rfl ?_))
   exact ⟨⟨i, by first | (rw [decide_eq_false (show ¬ i < xs.length by omega)]; rfl) | (rw [decide_eq_true (show i < xs.length by omega)]; simp_all; done), by omega, hlo, hhi⟩, hH.below⟩
  have g8_11' := g8_11; try simp only [qq] at g8_11'
  refine zy hF rfl g8_11 (r_move hF rfl rfl) fun a hF => ?_
  refine zy hF rfl g8_11 (r_move hF rfl rfl) fun a hF => ?_
  refine zy hF rfl g8_11 (r_ix1 hF _ rfl rfl rfl Tryz.underlying25 ti9 (by omega)) fun a hF => ?_
  refine zy hF rfl g8_11 (r_load hF rfl rfl fl9 (hH.cell hc)) fun a hF => ?_
  refine zyc hF rfl g8_11 rfl fn99 (isNaNz_spec _ _) ?_
  rintro _ w ⟨rfl, hE⟩ a hF
  replace hH := hH.ext hE
  refine zy hF rfl g8_11 (r_move hF rfl rfl) fun a hF => ?_
  refine ls_ask (d := 48) hF rfl (fun g8_17 => ?_) (fun g8_17 => ?_)
  ·
   have g8_17' := g8_17; try simp only [qq] at g8_17'
   cases g8_17
  have g8_17' := g8_17; try simp only [qq] at g8_17'
  refine zn hF rfl g8_17 fun a hF => ?_
  refine zn hF rfl g8_17 fun a hF => ?_
  refine zy hF rfl g8_11 (r_pickf hF rfl rfl g8_17 rfl) fun a hF => ?_
  refine zy hF rfl g8_4 (r_pickf hF rfl rfl g8_11 rfl) fun a hF => ?_
  refine zl hF rfl (r_pickt hF rfl rfl g8_4 rfl) fun a hF => ?_
  refine zm 2 hF rfl fun a hF => ?_
  refine c_n ?_
  replace hF := hF.sel [4, 5]
  simp only [ss, Nat.reduceBEq] at hF
  refine wp_ret (hret (ret2 hF Tryz.results62 rfl rfl ?_))
  exact ⟨⟨i, by first | (rw [decide_eq_false (show ¬ i < xs.length by omega)]; rfl) | (rw [decide_eq_true (show i < xs.length by omega)]; simp_all; done), by omega, hlo, hhi⟩, hH.below⟩
end Go.Proofs.YtcelgjabccgnmaaGreatDoor
