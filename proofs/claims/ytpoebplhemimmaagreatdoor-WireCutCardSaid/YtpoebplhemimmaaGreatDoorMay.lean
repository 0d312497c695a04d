/-
  The walks of package head's Flags and Write. Nothing is claimed here.
  Equality of options, questions and headers; the walks of edns.Same, wire.bare and wire.sections. Nothing is claimed here.
  The walk of wire.May. Nothing is claimed here.
-/
import Derived.Test.YtpoebplhemimmaaGreatDoorWriter
import Derived.Test.YtpoebplhemimmaaGreatDoorKit2
import Derived.Laws.StructEq
import Derived.ChangeKeysEq
namespace Go.Proofs.YtpoebplhemimmaaGreatDoor
variable {Ds : List Deferred}
open Go.RowKit
set_option linter.unusedVariables false
set_option linter.unusedSimpArgs false
set_option maxHeartbeats 1000000

section
variable {P : Program} {o : Oper} {a : Act} {w : World} {N dd : Nat} {L : List (Nat × Value)}
/-- An element of an array that a pointer leads to. -/
theorem r_ixarr (hF : FrD Ds N L a) {x y : Operand} {t e : TypeId} {n bytes b q : Nat} {k : IntKind} (m : Nat) (ho : o.op = .indexAddr t x y) (hx : ev L x = some (.pointer (some ⟨b, q, none⟩))) (hy : ev L y = some (.int k (m : Int))) (ht : P.underlying t = some (.array n e)) (hti : TI P e 1 bytes) (hm : m < n) :
    Does P o a w (.pointer (some ⟨b, q + m, none⟩)) w := by
  obtain ⟨inf, z, h1, _, h2, _, _⟩ := hti
  left; unfold execOp
  simp [ho, hF.ev hx, hF.ev hy, Instr.indexAt, asIntOf, run_underlying ht, sizeOf, typeInfo, h1, h2, hm, Instr.sureAddr, asAddr, Addr.add_lit]
theorem b_shl1 (t : TypeId) (k : Nat) (hk : k < 16) : (binOp .shl t (.int .u16 1) (.int .i64 (k : Int))).run P w = .ok (.int .u16 ((2 ^ k : Nat) : Int)) w := by
  rcases (show k = 0 ∨ k = 1 ∨ k = 2 ∨ k = 3 ∨ k = 4 ∨ k = 5 ∨ k = 6 ∨ k = 7 ∨ k = 8 ∨ k = 9 ∨ k = 10 ∨ k = 11 ∨ k = 12 ∨ k = 13 ∨ k = 14 ∨ k = 15 by omega) with rfl | rfl | rfl | rfl | rfl | rfl | rfl | rfl | rfl | rfl | rfl | rfl | rfl | rfl | rfl | rfl <;> rfl
theorem or_two_pow {a k : Nat} (h : a / 2 ^ k % 2 = 0) : a ||| 2 ^ k = a + 2 ^ k := by
  obtain ⟨q, hq⟩ : ∃ q, q = a / 2 ^ (k + 1) := ⟨_, rfl⟩
  obtain ⟨r, hr⟩ : ∃ r, r = a % 2 ^ (k + 1) := ⟨_, rfl⟩
  have h1 : 2 ^ (k + 1) * q + r = a := by rw [hq, hr]; exact Nat.div_add_mod a (2 ^ (k + 1))
  have h2 : r < 2 ^ k := by
    rw [hr, Nat.pow_succ, Nat.mod_mul, h, Nat.mul_zero, Nat.add_zero]
    exact Nat.mod_lt a (Nat.two_pow_pos k)
  have hp : 2 ^ (k + 1) = 2 ^ k + 2 ^ k := by rw [Nat.pow_succ]; omega
  have h3 := Nat.two_pow_add_eq_or_of_lt (i := k + 1) (b := r) (by omega) q
  have h4 := Nat.two_pow_add_eq_or_of_lt (i := k) h2 1
  have h5 := Nat.two_pow_add_eq_or_of_lt (i := k + 1) (b := 2 ^ k * 1 + r) (by omega) q
  rw [h1] at h3
  rw [h3, Nat.or_assoc, Nat.or_comm r, show 2 ^ k ||| r = 2 ^ k * 1 ||| r by rw [Nat.mul_one], ← h4, ← h5, ← h3, ← h1]
  omega
theorem b_orbit (t : TypeId) (a k : Nat) (ha : a < 65536) (hk : k < 16) (h : a / 2 ^ k % 2 = 0) : (binOp .or t (.int .u16 (a : Int)) (.int .u16 ((2 ^ k : Nat) : Int))).run P w = .ok (.int .u16 ((a + 2 ^ k : Nat) : Int)) w := by
  have hk2 : 2 ^ k < 65536 := Nat.pow_lt_pow_right (by omega) (show k < 16 from hk)
  have h1 : bits .or .u16 (a : Int) ((2 ^ k : Nat) : Int) = ((a + 2 ^ k : Nat) : Int) := by
    rw [u16_or_nat a (2 ^ k) ha hk2, or_two_pow h]
  simp only [binOp]
  simp [go_sem]
  simpa using h1
end
abbrev ptrO (g off : Nat) : Value := .pointer (some ⟨g, off, none⟩)
def offL : List Nat := [1, 3, 4, 5, 6, 7, 8, 9]
theorem parts_hspec (g : Nat) (w0 : World) : Rets Tryz.prog 71 [ptr g] w0 fun v w' => v = .agg #[ptrO g 1, ptrO g 3, ptrO g 4, ptrO g 5, ptrO g 6, ptrO g 7, ptrO g 8, ptrO g 9] ∧ Ext w0 w' := by
  have hH := Hp.refl w0
  refine rets_start Tryz.func71 rfl Tryz.ntmps71 rfl fun a Q0 hF hret hend => ?_
  simp only [argsFrom, Nat.zero_add, Nat.reduceAdd] at hF
  refine c_sr fun ops => ?_
  refine ls_alloc hF hH rfl rfl rfl rfl zv138 ?_
  intro a w g0_0 hH hE hF
  refine c_n ?_
  replace hF := hF.sel [0, 2]
  simp only [ss, Nat.reduceBEq] at hF
  refine c_seq fun Q1 k1 t1 => ?_
  refine c_planF hF [] [0, 1, 2, 3, 4, 5, 6, 7, 8, 9, 10, 11, 12, 13, 14, 15, 16, 17, 18, 19, 20, 21, 22, 23] [] [] [24, 25] [0, 1, 2, 3, 4, 5, 6, 7, 8, 9, 10, 11, 12, 13, 14, 15, 16, 17, 18, 19, 20, 21, 22, 23] (hH.S) (by kernel_rfl) (by kernel_rfl) rfl ?_
  refine ps hF rfl rfl rfl rfl (fun w => r_move hF rfl rfl) fun a hF => ?_
  refine ps_nil hF rfl rfl rfl rfl rfl fun a hF => ?_
  refine ps hF rfl rfl rfl rfl (fun w => r_fieldaddr0 hF rfl rfl fd30_1) fun a hF => ?_
  refine ps hF rfl rfl rfl rfl (fun w => r_move hF rfl rfl) fun a hF => ?_
  refine ps_nil hF rfl rfl rfl rfl rfl fun a hF => ?_
  refine ps hF rfl rfl rfl rfl (fun w => r_fieldaddr0 hF rfl rfl fd30_3) fun a hF => ?_
  refine ps hF rfl rfl rfl rfl (fun w => r_move hF rfl rfl) fun a hF => ?_
  refine ps_nil hF rfl rfl rfl rfl rfl fun a hF => ?_
  refine ps hF rfl rfl rfl rfl (fun w => r_fieldaddr0 hF rfl rfl fd30_4) fun a hF => ?_
  refine ps hF rfl rfl rfl rfl (fun w => r_move hF rfl rfl) fun a hF => ?_
  refine ps_nil hF rfl rfl rfl rfl rfl fun a hF => ?_
  refine ps hF rfl rfl rfl rfl (fun w => r_fieldaddr0 hF rfl rfl fd30_5) fun a hF => ?_
  refine ps hF rfl rfl rfl rfl (fun w => r_move hF rfl rfl) fun a hF => ?_
  refine ps_nil hF rfl rfl rfl rfl rfl fun a hF => ?_
  refine ps hF rfl rfl rfl rfl (fun w => r_fieldaddr0 hF rfl rfl fd30_6) fun a hF => ?_
  refine ps hF rfl rfl rfl rfl (fun w => r_move hF rfl rfl) fun a hF => ?_
  refine ps_nil hF rfl rfl rfl rfl rfl fun a hF => ?_
  refine ps hF rfl rfl rfl rfl (fun w => r_fieldaddr0 hF rfl rfl fd30_7) fun a hF => ?_
  refine ps hF rfl rfl rfl rfl (fun w => r_move hF rfl rfl) fun a hF => ?_
  refine ps_nil hF rfl rfl rfl rfl rfl fun a hF => ?_
  refine ps hF rfl rfl rfl rfl (fun w => r_fieldaddr0 hF rfl rfl fd30_8) fun a hF => ?_
  refine ps hF rfl rfl rfl rfl (fun w => r_move hF rfl rfl) fun a hF => ?_
  refine ps_nil hF rfl rfl rfl rfl rfl fun a hF => ?_
  refine ps hF rfl rfl rfl rfl (fun w => r_fieldaddr0 hF rfl rfl fd30_9) fun a hF => ?_
  refine pl_start fun w hE => ?_
  replace hH := hH.ext hE
  refine ⟨hH, ?_⟩
  refine pt ?_
  refine tt ?_
  refine zl hF rfl (r_build hF rfl rfl (bd138_0_1_2_3_4_5_6_7 _ _ _ _ _ _ _ _ _ (rfl) (rfl) (rfl) (rfl) (rfl) (rfl) (rfl) (rfl))) fun a hF => ?_
  refine ls_storeagg 0 hF hH rfl rfl rfl rfl rfl ti138 rfl (rfl) (rfl) (by simp [Value.oneCell']) ?_
  intro w hH
  refine pt_end ?_
  replace hF := hF.sel [2]
  simp only [ss, Nat.reduceBEq] at hF
  refine k1 ?_
  refine wp_ret (hret (retc1 (fn := Tryz.f71) (t := 2) (i := 0) hF hH Tryz.results71 rfl (by kernel_rfl) ti138 rfl rfl ?_))
  exact ⟨rfl, hH.below⟩
theorem bitN_cases (b : Bool) (k : Nat) : bitN b k = 0 ∨ bitN b k = k := by cases b <;> simp [bitN]
theorem bitN_mul (b : Bool) (k : Nat) : bitN b k = k * b.toNat := by cases b <;> simp [bitN]
theorem toNat_le (b : Bool) : b.toNat ≤ 1 := by cases b <;> simp
theorem flagsN_lt {h : Hd} (ho : h.op ≤ 15) (hc : h.code ≤ 15) : flagsN h < 65536 := by
  have t1 := toNat_le h.qr; have t2 := toNat_le h.aa; have t3 := toNat_le h.tc; have t4 := toNat_le h.rd; have t5 := toNat_le h.ra; have t6 := toNat_le h.z; have t7 := toNat_le h.ad; have t8 := toNat_le h.cd
  unfold flagsN
  simp only [bitN_mul]
  omega
section
variable {P : Program} {w : World}
theorem b_shl11 (t : TypeId) (n : Nat) (h : n ≤ 15) : (binOp .shl t (.int .u16 (n : Int)) (.int .u64 11)).run P w = .ok (.int .u16 ((n * 2048 : Nat) : Int)) w := by
  simp [go_sem]; rw [IntKind.wrap_u16]; omega
theorem b_or11 (t : TypeId) (n m : Nat) (h : n ≤ 15) (hm : m ≤ 15) : (binOp .or t (.int .u16 ((n * 2048 : Nat) : Int)) (.int .u16 (m : Int))).run P w = .ok (.int .u16 ((n * 2048 + m : Nat) : Int)) w := by
  have h1 : bits .or .u16 ((n * 2048 : Nat) : Int) (m : Int) = ((n * 2048 + m : Nat) : Int) := by
    rw [u16_or_nat (n * 2048) m (by omega) (by omega)]
    have := Nat.two_pow_add_eq_or_of_lt (i := 11) (b := m) (by omega) n
    rw [show 2 ^ 11 * n = n * 2048 by omega] at this
    rw [this]
  simp only [binOp]
  simp [go_sem]
  simpa using h1
end
/-- The flags, as far as they have been gathered. -/
def facc (h : Hd) (i : Nat) : Nat := h.op * 2048 + h.code + (((([h.qr, h.aa, h.tc, h.rd, h.ra, h.z, h.ad, h.cd] : List Bool).zip bitsL).take i).map fun p => bitN p.1 (2 ^ p.2)).sum
theorem facc_end (h : Hd) : facc h 8 = flagsN h := by
  simp only [facc, bitsL, flagsN, bitN_mul, List.zip_cons_cons, List.zip_nil_right, List.take_succ_cons, List.take_zero, List.map_cons, List.map_nil, List.sum_cons, List.sum_nil]
  omega
theorem facc_step {h : Hd} (ho : h.op ≤ 15) (hc : h.code ≤ 15) {i : Nat} (hi : i < 8) : ∃ off b k, offL[i]? = some off ∧ (hdV h)[off]? = some (.bool b) ∧ bitsL[i]? = some k ∧ k < 16 ∧ facc h (i + 1) = facc h i + bitN b (2 ^ k) ∧ facc h i / 2 ^ k % 2 = 0 ∧ facc h i + 2 ^ k < 65536 := by
  have t1 := toNat_le h.qr; have t2 := toNat_le h.aa; have t3 := toNat_le h.tc; have t4 := toNat_le h.rd; have t5 := toNat_le h.ra; have t6 := toNat_le h.z; have t7 := toNat_le h.ad; have t8 := toNat_le h.cd
  rcases (show i = 0 ∨ i = 1 ∨ i = 2 ∨ i = 3 ∨ i = 4 ∨ i = 5 ∨ i = 6 ∨ i = 7 by omega) with rfl | rfl | rfl | rfl | rfl | rfl | rfl | rfl <;>
    (refine ⟨_, _, _, rfl, rfl, rfl, by decide, ?_, ?_, ?_⟩ <;>
      simp only [facc, bitsL, bitN_mul, List.zip_cons_cons, List.zip_nil_right, List.take_succ_cons, List.take_zero, List.map_cons, List.map_nil, List.sum_cons, List.sum_nil] <;> omega)
theorem flags_spec (h : Hd) (hL : HdL h) (w0 : World) (hG : GX w0) : Rets Tryz.prog 46 [.agg (hdV h).toArray] w0
    fun v w' => v = .tuple #[.int .u16 ((if h.op ≤ 15 ∧ h.code ≤ 15 then flagsN h else 0 : Nat) : Int), .int .i64 ((if h.op ≤ 15 ∧ h.code ≤ 15 then 0 else 1 : Nat) : Int)] ∧ Ext w0 w' := by
  have hH := Hp.refl w0
  have hop := hL.op
  have hco := hL.code
  refine rets_start Tryz.func46 rfl Tryz.ntmps46 rfl fun a Q0 hF hret hend => ?_
  simp only [argsFrom, Nat.zero_add, Nat.reduceAdd] at hF
  refine c_sr fun ops => ?_
  refine ls_box hF hH rfl rfl rfl rfl rfl ?_
  intro a w g0_0 hH hE hF
  refine zm 2 hF rfl fun a hF => ?_
  refine c_n ?_
  replace hF := hF.sel [1]
  simp only [ss, Nat.reduceBEq] at hF
  refine c_seq fun Q1 k1 t1 => ?_
  refine c_sg ?_
  refine zl hF rfl (r_fieldaddr0 hF rfl rfl fd30_2) fun a hF => ?_
  refine zl hF rfl (r_load hF rfl rfl fl5 (own_cell (i := 0) (v := .int .u8 h.op) hH rfl rfl)) fun a hF => ?_
  refine zb hF rfl rfl rfl (b_gtn _ _ _ 15) fun a hF => ?_
  refine zm 1 hF rfl fun a hF => ?_
  refine ls_ask (d := 10) hF rfl (fun g1_3 => ?_) (fun g1_3 => ?_)
  ·
   have g1_3' := g1_3; try simp only [qq] at g1_3'
   refine zn hF rfl g1_3 fun a hF => ?_
   refine zn hF rfl g1_3 fun a hF => ?_
   refine zn hF rfl g1_3 fun a hF => ?_
   refine zl hF rfl (r_pickt hF rfl rfl g1_3 rfl) fun a hF => ?_
   refine c_n ?_
   replace hF := hF.sel [1, 14]
   simp only [ss, Nat.reduceBEq] at hF
   refine c_yes hF rfl rfl ?_
   refine c_sr fun ops => ?_
   refine zm 2 hF rfl fun a hF => ?_
   refine c_n ?_
   replace hF := hF.sel [2, 3]
   simp only [ss, Nat.reduceBEq] at hF
   refine wp_ret (t1.ret (hret (ret2 hF Tryz.results46 rfl rfl ?_)))
   exact ⟨by rw [if_neg (by omega), if_neg (by omega)]; rfl, hH.below⟩
  have g1_3' := g1_3; try simp only [qq] at g1_3'
  refine zy hF rfl g1_3 (r_fieldaddr0 hF rfl rfl fd30_10) fun a hF => ?_
  refine zy hF rfl g1_3 (r_load hF rfl rfl fl5 (own_cell (i := 0) (v := .int .u8 h.code) hH rfl rfl)) fun a hF => ?_
  refine zy hF rfl g1_3 (zr hF rfl rfl (b_gtn _ _ _ 15)) fun a hF => ?_
  refine zl hF rfl (r_pickf hF rfl rfl g1_3 rfl) fun a hF => ?_
  refine c_n ?_
  replace hF := hF.sel [1, 14]
  simp only [ss, Nat.reduceBEq] at hF
  refine c_if hF rfl (fun h14 => ?_) (fun h14 => ?_)
  ·
   try simp only [qq] at h14
   refine c_sr fun ops => ?_
   refine zm 2 hF rfl fun a hF => ?_
   refine c_n ?_
   replace hF := hF.sel [2, 3]
   simp only [ss, Nat.reduceBEq] at hF
   refine wp_ret (t1.ret (hret (ret2 hF Tryz.results46 rfl rfl ?_)))
   exact ⟨by rw [if_neg (by omega), if_neg (by omega)]; rfl, hH.below⟩
  try simp only [qq] at h14
  refine wp_skip ?_
  refine k1 ?_
  refine c_sr fun ops => ?_
  refine zl hF rfl (r_fieldaddr0 hF rfl rfl fd30_2) fun a hF => ?_
  refine zl hF rfl (r_load hF rfl rfl fl5 (own_cell (i := 0) (v := .int .u8 h.op) hH rfl rfl)) fun a hF => ?_
  refine zl hF rfl (r_convin hF rfl rfl (by rw [Tryz.underlying5]; rfl) Tryz.underlying28 (0) 65535 mn_u16 mx_u16 (by omega)) fun a hF => ?_
  refine zb hF rfl rfl rfl (b_shl11 _ h.op (by omega)) fun a hF => ?_
  refine zl hF rfl (r_fieldaddr0 hF rfl rfl fd30_10) fun a hF => ?_
  refine zl hF rfl (r_load hF rfl rfl fl5 (own_cell (i := 0) (v := .int .u8 h.code) hH rfl rfl)) fun a hF => ?_
  refine zl hF rfl (r_convin hF rfl rfl (by rw [Tryz.underlying5]; rfl) Tryz.underlying28 (0) 65535 mn_u16 mx_u16 (by omega)) fun a hF => ?_
  refine zb hF rfl rfl rfl (b_or11 _ h.op h.code (by omega) (by omega)) fun a hF => ?_
  refine zm 1 hF rfl fun a hF => ?_
  refine c_n ?_
  replace hF := hF.sel [1, 4]
  simp only [ss, Nat.reduceBEq] at hF
  refine c_seq fun Q2 k2 t2 => ?_
  refine c_sr fun ops => ?_
  refine zc hF rfl rfl fn71 (parts_hspec g0_0 _) ?_
  rintro _ w ⟨rfl, hE⟩ a hF
  replace hH := hH.ext hE
  refine zm 1 hF rfl fun a hF => ?_
  refine c_n ?_
  replace hF := hF.sel [4, 23, 24]
  simp only [ss, Nat.reduceBEq] at hF
  refine c_block fun Q3 t3 => ?_
  refine c_loop (fun n a w => ∃ i, n = 8 - i ∧ i ≤ 8 ∧ Fr 39 [(4, .int .u16 (facc h i : Nat)), (23, .agg #[ptrO g0_0 1, ptrO g0_0 3, ptrO g0_0 4, ptrO g0_0 5, ptrO g0_0 6, ptrO g0_0 7, ptrO g0_0 8, ptrO g0_0 9]), (24, .int .i64 (i : Nat))] a ∧ Hp w0 w [(g0_0, .cells (hdV h).toArray 30 (0, 0))]) ?_ ?_
  ·
   exact ⟨_, 0, rfl, Nat.zero_le _, hF.keep [4, 23, 24] (by simp [sel, lk, facc]), hH⟩
  clear hH hF
  intro n a w hI Q4 k4 t4
  obtain ⟨i, hm, hi, hF, hH⟩ := hI
  refine c_sr fun ops => ?_
  refine zb hF rfl rfl rfl (b_ltn _ _ _ 8) fun a hF => ?_
  refine c_n ?_
  refine c_seq fun Q5 k5 t5 => ?_
  refine c_fi hF rfl (fun h25 => ?_) (fun h25 => ?_)
  ·
   try simp only [qq] at h25
   obtain rfl : i = 8 := by omega
   rw [facc_end] at hF
   refine wp_exit (t5.exit (t4.exit (t3.here (?_))))
   refine k2 ?_
   refine c_sr fun ops => ?_
   refine zm 3 hF rfl fun a hF => ?_
   refine c_n ?_
   replace hF := hF.sel [2, 3]
   simp only [ss, Nat.reduceBEq] at hF
   refine wp_ret (hret (ret2 hF Tryz.results46 rfl rfl ?_))
   exact ⟨by rw [if_pos (by omega), if_pos (by omega)]; rfl, hH.below⟩
  try simp only [qq] at h25
  obtain ⟨off, b, k, ho1, ho2, ho3, hk, hn1, hn2, hn3⟩ := facc_step (show h.op ≤ 15 by omega) (show h.code ≤ 15 by omega) h25
  have hpt : (#[ptrO g0_0 1, ptrO g0_0 3, ptrO g0_0 4, ptrO g0_0 5, ptrO g0_0 6, ptrO g0_0 7, ptrO g0_0 8, ptrO g0_0 9] : Array Value)[i]? = some (ptrO g0_0 off) := by
    have : (#[ptrO g0_0 1, ptrO g0_0 3, ptrO g0_0 4, ptrO g0_0 5, ptrO g0_0 6, ptrO g0_0 7, ptrO g0_0 8, ptrO g0_0 9] : Array Value) = (offL.map (ptrO g0_0)).toArray := rfl
    rw [this, List.getElem?_toArray, List.getElem?_map, ho1]; rfl
  refine wp_skip ?_
  refine k5 ?_
  refine c_seq fun Q6 k6 t6 => ?_
  refine c_block fun Q7 t7 => ?_
  refine c_sr fun ops => ?_
  refine zm 1 hF rfl fun a hF => ?_
  refine zl hF rfl (r_indexarr hF _ rfl rfl rfl Tryz.underlying138 ti137 (by unfold flat; rw [Tryz.underlying137]) (by omega) (hpt)) fun a hF => ?_
  refine zm 2 hF rfl fun a hF => ?_
  refine c_n ?_
  refine c_sr fun ops => ?_
  refine zm 1 hF rfl fun a hF => ?_
  refine zl hF rfl (r_nilcheck hF rfl rfl) fun a hF => ?_
  refine zl hF rfl (r_load hF rfl rfl fl4 (own_cell (i := 0) (v := .bool b) hH rfl (by simpa using ho2))) fun a hF => ?_
  refine c_n ?_
  refine c_fi hF rfl (fun h30 => ?_) (fun h30 => ?_)
  ·
   try simp only [qq] at h30
   subst h30
   refine wp_skip ?_
   refine t7.norm ?_
   refine k6 ?_
   refine c_reg fun ops => ?_
   refine zb hF rfl rfl rfl (b_addn _ _ 1 (by omega)) fun a hF => ?_
   refine zm 1 hF rfl fun a hF => ?_
   refine wpList_nil ?_
   refine k4 ?_
   refine ⟨8 - (i + 1), by omega, i + 1, rfl, by omega, ?_, hH⟩
   rw [hn1]
   first
     | exact hF.keep [4, 23, 24] (by simp [sel, lk, bitN])
     | exact hF.keep [4, 23, 24] rfl
  try simp only [qq] at h30
  subst h30
  refine c_reg fun ops => ?_
  refine zm 2 hF rfl fun a hF => ?_
  refine zl hF rfl (r_ixarr hF _ rfl rfl rfl Tryz.underlying141 ti3 (by omega)) fun a hF => ?_
  refine zl hF rfl (r_load hF rfl rfl fl3 (by rw [Nat.zero_add]; exact (hG.ext hH.below).bits i k ho3)) fun a hF => ?_
  refine zb hF rfl rfl rfl (b_shl1 _ k hk) fun a hF => ?_
  refine zb hF rfl rfl rfl (b_orbit _ (facc h i) k (Nat.lt_of_le_of_lt (Nat.le_add_right _ _) hn3) hk hn2) fun a hF => ?_
  refine zm 1 hF rfl fun a hF => ?_
  refine wpList_nil ?_
  refine t7.norm ?_
  refine k6 ?_
  refine c_reg fun ops => ?_
  refine zb hF rfl rfl rfl (b_addn _ _ 1 (by omega)) fun a hF => ?_
  refine zm 1 hF rfl fun a hF => ?_
  refine wpList_nil ?_
  refine k4 ?_
  refine ⟨8 - (i + 1), by omega, i + 1, rfl, by omega, ?_, hH⟩
  rw [hn1]
  first
    | exact hF.keep [4, 23, 24] (by simp [sel, lk, bitN])
    | exact hF.keep [4, 23, 24] rfl
theorem headW_fold (h : Hd) (l : List Nat) : be2 h.id ++ be2 (flagsN h) ++ (l.flatMap be2) = be2 h.id ++ (be2 (flagsN h) ++ l.flatMap be2) := List.append_assoc ..
theorem hwrite_spec (h : Hd) (hL : HdL h) (ho : h.op ≤ 15) (hc : h.code ≤ 15) (l : List Nat) (hl : l.length = 4) (hb : ∀ n ∈ l, n ≤ 65535) (w0 : World) (hG : GX w0) : Rets Tryz.prog 39 [.agg (hdV h).toArray, .agg (l.map fun n => Value.int .i64 (n : Nat)).toArray] w0
    fun v w' => v = .tuple #[.string (mk (be2 h.id ++ be2 (flagsN h) ++ l.flatMap be2)), .int .i64 0] ∧ Ext w0 w' := by
  have hH := Hp.refl w0
  have hid := hL.id
  have hfl : flagsN h < 65536 := flagsN_lt ho hc
  refine rets_start Tryz.func39 rfl Tryz.ntmps39 rfl fun a Q0 hF hret hend => ?_
  simp only [argsFrom, Nat.zero_add, Nat.reduceAdd] at hF
  refine c_sr fun ops => ?_
  refine ls_box hF hH rfl rfl rfl rfl rfl ?_
  intro a w g0_0 hH hE hF
  refine ls_box hF hH rfl rfl rfl rfl rfl ?_
  intro a w g0_1 hH hE hF
  refine zm 2 hF rfl fun a hF => ?_
  refine c_n ?_
  replace hF := hF.sel [2, 3]
  simp only [ss, Nat.reduceBEq] at hF
  refine c_sr fun ops => ?_
  refine zl hF rfl (r_loadagg hF rfl rfl Tryz.underlying30 ti30 rfl (own_agg (i := 1) hH rfl)) fun a hF => ?_
  refine zc hF rfl rfl fn46 (flags_spec h hL _ (hG.ext hH.below)) ?_
  rintro _ w ⟨rfl, hE⟩ a hF
  rw [if_pos ⟨ho, hc⟩, if_pos ⟨ho, hc⟩] at hF; replace hH := hH.ext hE
  refine zm 5 hF rfl fun a hF => ?_
  refine c_n ?_
  replace hF := hF.sel [2, 3, 6, 7]
  simp only [ss, Nat.reduceBEq] at hF
  refine c_seq fun Q1 k1 t1 => ?_
  refine c_sr fun ops => ?_
  refine zm 1 hF rfl fun a hF => ?_
  refine zb hF rfl rfl rfl (b_nen _ _ _ 0) fun a hF => ?_
  refine c_n ?_
  replace hF := hF.sel [2, 3, 6, 7, 17]
  simp only [ss, Nat.reduceBEq] at hF
  refine c_if hF rfl (fun h17 => ?_) (fun h17 => ?_)
  ·
   try simp only [qq] at h17
   exact (h17 trivial).elim
  try simp only [qq] at h17
  refine wp_skip ?_
  refine k1 ?_
  refine c_sr fun ops => ?_
  refine zl hF rfl (r_fieldaddr0 hF rfl rfl fd30_0) fun a hF => ?_
  refine zl hF rfl (r_load hF rfl rfl fl28 (own_cell (i := 1) (v := .int .u16 h.id) hH rfl rfl)) fun a hF => ?_
  refine zc hF rfl rfl fn65 (put2_spec [] h.id _ _ (RSl.nil _ _) (by simp) hid) ?_
  rintro v21 w ⟨B1, hB1, hS1⟩ a hF
  replace hH := hH.join hB1
  refine zm 1 hF rfl fun a hF => ?_
  refine zc hF rfl rfl fn65 (put2_spec (be2 h.id) (flagsN h) _ _ (hS1.rsl hH fun p hp => List.mem_append_left _ hp) (by simp [be2_len]) hfl) ?_
  rintro v23 w ⟨B2, hB2, hS2⟩ a hF
  replace hH := (hH.join hB2).less
  refine zm 1 hF rfl fun a hF => ?_
  refine c_n ?_
  replace hF := hF.sel [3, 8]
  simp only [ss, Nat.reduceBEq] at hF
  refine c_seq fun Q2 k2 t2 => ?_
  refine c_sr fun ops => ?_
  refine zl hF rfl (r_loadT (cs := l.map fun n => Value.int .i64 (n : Nat)) hF rfl rfl (by kernel_rfl) ti60 (by simpa using hl) (mem_agg hH (List.mem_append_right _ (List.mem_cons_self ..)))) fun a hF => ?_
  refine zm 1 hF rfl fun a hF => ?_
  refine c_n ?_
  replace hF := hF.sel [8, 24, 25]
  simp only [ss, Nat.reduceBEq] at hF
  replace hH : Hp w0 w B2 := hH.sub (List.sublist_append_left _ _)
  refine c_block fun Q3 t3 => ?_
  refine c_loop (fun n a w => ∃ i B v8, n = 4 - i ∧ i ≤ 4 ∧ Fr 41 [(8, v8), (24, .agg (l.map fun n => Value.int .i64 (n : Nat)).toArray), (25, .int .i64 (i : Nat))] a ∧ Hp w0 w B ∧ Sl 5 1 B v8 (be2 h.id ++ be2 (flagsN h) ++ (l.take i).flatMap be2).length (bytV (be2 h.id ++ be2 (flagsN h) ++ (l.take i).flatMap be2))) ?_ ?_
  ·
   exact ⟨_, 0, B2, _, rfl, Nat.zero_le _, hF.keep [8, 24, 25] rfl, hH, by simpa [be2_len] using hS2⟩
  clear hH hF hS1 hS2
  intro n a w hI Q4 k4 t4
  obtain ⟨i, B, v8, hm, hi, hF, hH, hS⟩ := hI
  refine c_sr fun ops => ?_
  refine zb hF rfl rfl rfl (b_ltn _ _ _ 4) fun a hF => ?_
  refine c_n ?_
  refine c_seq fun Q5 k5 t5 => ?_
  refine c_fi hF rfl (fun h26 => ?_) (fun h26 => ?_)
  ·
   try simp only [qq] at h26
   rw [List.take_of_length_le (by omega)] at hS
   refine wp_exit (t5.exit (t4.exit (t3.here (?_))))
   refine k2 ?_
   refine c_sr fun ops => ?_
   refine zm 1 hF rfl fun a hF => ?_
   refine zl hF rfl (r_convstr hF rfl rfl Tryz.underlying26 Tryz.underlying5 Tryz.underlying9 (hS.rsl hH fun p hp => hp)) fun a hF => ?_
   refine zm 2 hF rfl fun a hF => ?_
   refine c_n ?_
   replace hF := hF.sel [4, 5]
   simp only [ss, Nat.reduceBEq] at hF
   refine wp_ret (hret (ret2 hF Tryz.results39 rfl rfl ?_))
   exact ⟨rfl, hH.below⟩
  try simp only [qq] at h26
  have hil : i < l.length := by omega
  have hxl : (be2 h.id ++ be2 (flagsN h) ++ (l.take i).flatMap be2).length < 1000 := by
    have h1 : ((l.take i).flatMap be2).length = (l.take i).length * 2 := by
      generalize l.take i = m
      induction m with
      | nil => rfl
      | cons x m ih => rw [List.flatMap_cons, List.length_append, ih, be2_len, List.length_cons]; omega
    rw [List.length_append, List.length_append, h1, be2_len, be2_len, List.length_take]; omega
  have hni := hb _ (List.getElem_mem hil)
  refine wp_skip ?_
  refine k5 ?_
  refine c_seq fun Q6 k6 t6 => ?_
  refine c_block fun Q7 t7 => ?_
  refine c_sr fun ops => ?_
  refine zl hF rfl (r_indexarr hF _ rfl rfl rfl Tryz.underlying60 ti3 (by unfold flat; rw [Tryz.underlying3]) (by omega) ((show (l.map fun n => Value.int .i64 (n : Nat)).toArray[i]? = some (.int .i64 (l[i] : Nat)) by simp [hil]))) fun a hF => ?_
  refine zm 1 hF rfl fun a hF => ?_
  refine c_n ?_
  refine c_seq fun Q8 k8 t8 => ?_
  refine c_sg ?_
  refine zm 1 hF rfl fun a hF => ?_
  refine zb hF rfl rfl rfl (b_ltn _ _ _ 0) fun a hF => ?_
  refine zm 1 hF rfl fun a hF => ?_
  refine ls_ask (d := 30) hF rfl (fun g8_2 => ?_) (fun g8_2 => ?_)
  ·
   have g8_2' := g8_2; try simp only [qq] at g8_2'
   omega
  have g8_2' := g8_2; try simp only [qq] at g8_2'
  refine zy hF rfl g8_2 (r_move hF rfl rfl) fun a hF => ?_
  refine zy hF rfl g8_2 (zr hF rfl rfl (b_gtn _ _ _ 65535)) fun a hF => ?_
  refine zl hF rfl (r_pickf hF rfl rfl g8_2 rfl) fun a hF => ?_
  refine c_n ?_
  refine c_if hF rfl (fun h33 => ?_) (fun h33 => ?_)
  ·
   try simp only [qq] at h33
   omega
  try simp only [qq] at h33
  refine wp_skip ?_
  refine k8 ?_
  refine c_reg fun ops => ?_
  refine zm 2 hF rfl fun a hF => ?_
  refine zl hF rfl (r_convin hF rfl rfl (by rw [Tryz.underlying3]; rfl) Tryz.underlying28 (0) 65535 mn_u16 mx_u16 (by omega)) fun a hF => ?_
  refine zc hF rfl rfl fn65 (put2_spec _ l[i] _ _ (hS.rsl hH fun p hp => hp) (by omega) (by omega)) ?_
  rintro v37 w ⟨B3, hB3, hS3⟩ a hF
  replace hH := (hH.join hB3).sub (List.sublist_append_left _ _)
  refine zm 1 hF rfl fun a hF => ?_
  refine wpList_nil ?_
  refine t7.norm ?_
  refine k6 ?_
  refine c_reg fun ops => ?_
  refine zb hF rfl rfl rfl (b_addn _ _ 1 (by omega)) fun a hF => ?_
  refine zm 1 hF rfl fun a hF => ?_
  refine wpList_nil ?_
  refine k4 ?_
  refine ⟨4 - (i + 1), by omega, i + 1, B3, _, rfl, by omega, hF.keep [8, 24, 25] rfl, hH, ?_⟩
  rw [show be2 h.id ++ be2 (flagsN h) ++ (l.take (i + 1)).flatMap be2 = be2 h.id ++ be2 (flagsN h) ++ (l.take i).flatMap be2 ++ be2 l[i] by rw [List.take_succ_eq_append_getElem hil, List.flatMap_append]; simp]
  rw [List.length_append, be2_len]; exact hS3
end Go.Proofs.YtpoebplhemimmaaGreatDoor
namespace Go.Proofs.YtpoebplhemimmaaGreatDoor
variable {Ds : List Deferred}
open Go.RowKit
set_option linter.unusedVariables false
set_option linter.unusedSimpArgs false
set_option maxHeartbeats 1000000

section
variable {P : Program} {o : Oper} {a : Act} {w w' : World} {N : Nat} {L : List (Nat × Value)} {v : Value}
theorem r_binA {x y : Operand} {op : BinOp} {t ty : TypeId} {u1 u2 : Value} (hF : FrD Ds N L a) (ho : o.op = .binOp op t x y ty) (hx : ev L x = some u1) (hy : ev L y = some u2)
    (hg : (eqGuard op t x y u1 u2).run P w = .ok () w) (hr : (binOp op t u1 u2).run P w = .ok v w) : Does P o a w v w := by
  left; unfold execOp; simp [ho, hF.ev hx, hF.ev hy, hg, hr]
theorem eqA_step {d : Nat} {f : Field} {fs : List Field} {xs ys : Array Value} {a b : Value} {r q : Bool} (hn : f.name ≠ "_") (hp : P.plainKey f.type = true) (hx : xs[f.offset]? = some a) (hy : ys[f.offset]? = some b)
    (he : (Op.equalIn d f.type a b).run P w = .ok r w) (hk : (Op.eqFields d xs ys fs).run P w = .ok q w) : (Op.eqFields d xs ys (f :: fs)).run P w = .ok (r && q) w := by
  rw [Op.eqFields, if_pos hn]
  simp only [Sem.run_bind, run_part_plain _ hp hx, run_part_plain _ hp hy, Result.andThen_ok, he]
  cases r
  · simp
  · simp [hk]
theorem eqA_nil {d : Nat} {xs ys : Array Value} : (Op.eqFields d xs ys []).run P w = .ok true w := rfl
theorem eqA_str {d : Nat} {t : TypeId} (h : P.underlying t = some .string) (x y : Bs) : (Op.equalIn (d + 1) t (.string (mk x)) (.string (mk y))).run P w = .ok (decide (x = y)) w := by
  rw [run_equalIn_string w d _ _ _ h, toList_mk, toList_mk, beq_eq_decide]
theorem eqA_int {d : Nat} {t : TypeId} {k k' : IntKind} (h : P.underlying t = some (.int k')) (x y : Nat) : (Op.equalIn (d + 1) t (.int k (x : Nat)) (.int k (y : Nat))).run P w = .ok (decide (x = y)) w := by
  rw [run_equalIn_int w d _ _ _ _ _ h]
  have : ((x : Int) == (y : Int)) = decide (x = y) := by rw [Bool.eq_iff_iff]; simp; omega
  rw [this]
theorem eqA_bool {d : Nat} {t : TypeId} (h : P.underlying t = some .bool) (x y : Bool) : (Op.equalIn (d + 1) t (.bool x) (.bool y)).run P w = .ok (x == y) w := run_equalIn_bool' w d t x y h
theorem eqA_eql {t : TypeId} {fs : Array Field} {xs ys : Array Value} {r : Bool} (ht : P.underlying t = some (.struct fs)) (hp : P.stoodInHeld t = false) (h : (Op.eqFields 9999 xs ys fs.toList).run P w = .ok r w) : (binOp .eql t (.agg xs) (.agg ys)).run P w = .ok (.bool r) w := by
  have hf : P.fieldsOf t = fs := by simp [Program.fieldsOf, ht]
  rw [run_eql_struct, show (10000 : Nat) = 9999 + 1 from rfl, run_equalIn_agg w 9999 _ _ _ (by rw [hf]; exact ht) hp, hf, h]; rfl
theorem eqA_neq {t : TypeId} {fs : Array Field} {xs ys : Array Value} {r : Bool} (ht : P.underlying t = some (.struct fs)) (hp : P.stoodInHeld t = false) (h : (Op.eqFields 9999 xs ys fs.toList).run P w = .ok r w) : (binOp .neq t (.agg xs) (.agg ys)).run P w = .ok (.bool (!r)) w := by
  have hf : P.fieldsOf t = fs := by simp [Program.fieldsOf, ht]
  rw [run_neq_struct, show (10000 : Nat) = 9999 + 1 from rfl, run_equalIn_agg w 9999 _ _ _ (by rw [hf]; exact ht) hp, hf, h]; rfl
end
deriving instance DecidableEq for Opt
deriving instance DecidableEq for Que
deriving instance DecidableEq for Hd
deriving instance DecidableEq for Ed
theorem b_optne {w : World} (r s : Opt) : (binOp .neq 85 (.agg (optV r).toArray) (.agg (optV s).toArray)).run Tryz.prog w = .ok (.bool (!decide (r = s))) w := by
  have h : decide (r = s) = (decide (r.code = s.code) && (decide (r.data = s.data) && true)) := by
    obtain ⟨a, b⟩ := r
    obtain ⟨c, d⟩ := s
    rw [Bool.eq_iff_iff]; simp
  rw [h]
  exact eqA_neq Tryz.underlying85 (by kernel_rfl) (eqA_step (by decide) (by kernel_rfl) rfl rfl (eqA_int Tryz.underlying28 _ _) (eqA_step (by decide) (by kernel_rfl) rfl rfl (eqA_str Tryz.underlying9 _ _) eqA_nil))
theorem b_quene {w : World} (r s : Que) : (binOp .neq 53 (.agg (quV r).toArray) (.agg (quV s).toArray)).run Tryz.prog w = .ok (.bool (!decide (r = s))) w := by
  have h : decide (r = s) = (decide (r.name = s.name) && (decide (r.kind = s.kind) && (decide (r.cls = s.cls) && true))) := by
    obtain ⟨a, b, c⟩ := r
    obtain ⟨a', b', c'⟩ := s
    rw [Bool.eq_iff_iff]; simp
  rw [h]
  exact eqA_neq Tryz.underlying53 (by kernel_rfl) (eqA_step (by decide) (by kernel_rfl) rfl rfl (eqA_str Tryz.underlying9 _ _) (eqA_step (by decide) (by kernel_rfl) rfl rfl (eqA_int Tryz.underlying28 _ _) (eqA_step (by decide) (by kernel_rfl) rfl rfl (eqA_int Tryz.underlying28 _ _) eqA_nil)))
theorem b_hdeq {w : World} (r s : Hd) : (binOp .eql 30 (.agg (hdV r).toArray) (.agg (hdV s).toArray)).run Tryz.prog w = .ok (.bool (decide (r = s))) w := by
  have h : decide (r = s) = (decide (r.id = s.id) && ((r.qr == s.qr) && (decide (r.op = s.op) && ((r.aa == s.aa) && ((r.tc == s.tc) && ((r.rd == s.rd) && ((r.ra == s.ra) && ((r.z == s.z) && ((r.ad == s.ad) && ((r.cd == s.cd) && (decide (r.code = s.code) && true))))))))))) := by
    obtain ⟨a, b, c, d, e, f, g, h, i, j, k⟩ := r
    obtain ⟨a', b', c', d', e', f', g', h', i', j', k'⟩ := s
    rw [Bool.eq_iff_iff]; simp
  rw [h]
  exact eqA_eql Tryz.underlying30 (by kernel_rfl) (eqA_step (by decide) (by kernel_rfl) rfl rfl (eqA_int Tryz.underlying28 _ _) (eqA_step (by decide) (by kernel_rfl) rfl rfl (eqA_bool Tryz.underlying4 _ _) (eqA_step (by decide) (by kernel_rfl) rfl rfl (eqA_int Tryz.underlying5 _ _)
    (eqA_step (by decide) (by kernel_rfl) rfl rfl (eqA_bool Tryz.underlying4 _ _) (eqA_step (by decide) (by kernel_rfl) rfl rfl (eqA_bool Tryz.underlying4 _ _) (eqA_step (by decide) (by kernel_rfl) rfl rfl (eqA_bool Tryz.underlying4 _ _) (eqA_step (by decide) (by kernel_rfl) rfl rfl (eqA_bool Tryz.underlying4 _ _)
    (eqA_step (by decide) (by kernel_rfl) rfl rfl (eqA_bool Tryz.underlying4 _ _) (eqA_step (by decide) (by kernel_rfl) rfl rfl (eqA_bool Tryz.underlying4 _ _) (eqA_step (by decide) (by kernel_rfl) rfl rfl (eqA_bool Tryz.underlying4 _ _) (eqA_step (by decide) (by kernel_rfl) rfl rfl (eqA_int Tryz.underlying5 _ _) eqA_nil)))))))))))
theorem list_next {α : Type} {l m : List α} (hn : l.length = m.length) {i : Nat} (hi : i < l.length) : (l = m ↔ l.take i = m.take i ∧ l.drop i = m.drop i) := by
  constructor
  · rintro rfl; exact ⟨rfl, rfl⟩
  · rintro ⟨h1, h2⟩; rw [← List.take_append_drop i l, h1, h2, List.take_append_drop]
theorem optsEq_spec (l m : List Opt) (v u : Value) (w0 : World) (hv : RSl w0 2 v l.length (l.flatMap optV)) (hu : RSl w0 2 u m.length (m.flatMap optV)) (hl : l.length < 1000000) :
    Rets Tryz.prog 89 [v, u] w0 fun r w' => r = .bool (decide (l = m)) ∧ Ext w0 w' := by
  have hH := Hp.refl w0
  obtain ⟨ad, cp, rfl⟩ : ∃ ad cp, v = .slice ad l.length cp := hv.shape
  obtain ⟨bd, dp, rfl⟩ : ∃ ad cp, u = .slice ad m.length cp := hu.shape
  refine rets_start Tryz.func89 rfl Tryz.ntmps89 rfl fun a Q0 hF hret hend => ?_
  simp only [argsFrom, Nat.zero_add, Nat.reduceAdd] at hF
  refine c_sr fun ops => ?_
  refine zm 1 hF rfl fun a hF => ?_
  refine c_n ?_
  replace hF := hF.sel [0, 1]
  simp only [ss, Nat.reduceBEq] at hF
  refine c_seq fun Q1 k1 t1 => ?_
  refine c_sr fun ops => ?_
  refine zm 1 hF rfl fun a hF => ?_
  refine zl hF rfl (r_len_sl hF rfl rfl Tryz.underlying33) fun a hF => ?_
  refine zm 1 hF rfl fun a hF => ?_
  refine zl hF rfl (r_len_sl hF rfl rfl Tryz.underlying33) fun a hF => ?_
  refine zb hF rfl rfl rfl (b_nen _ _ _ _) fun a hF => ?_
  refine c_n ?_
  replace hF := hF.sel [0, 1, 10]
  simp only [ss, Nat.reduceBEq] at hF
  refine c_if hF rfl (fun h10 => ?_) (fun h10 => ?_)
  ·
   try simp only [qq] at h10
   refine c_sr fun ops => ?_
   refine zm 1 hF rfl fun a hF => ?_
   refine c_n ?_
   replace hF := hF.sel [4]
   simp only [ss, Nat.reduceBEq] at hF
   refine wp_ret (t1.ret (hret (ret1 hF Tryz.results89 rfl ?_)))
   exact ⟨by rw [decide_eq_false (fun e => h10 (by rw [e]))], hH.below⟩
  try simp only [qq] at h10
  have hlm : l.length = m.length := by omega
  refine wp_skip ?_
  refine k1 ?_
  refine c_seq fun Q2 k2 t2 => ?_
  refine c_sr fun ops => ?_
  refine zm 1 hF rfl fun a hF => ?_
  refine zl hF rfl (r_len_sl hF rfl rfl Tryz.underlying33) fun a hF => ?_
  refine zm 1 hF rfl fun a hF => ?_
  refine c_n ?_
  replace hF := hF.sel [0, 1, 12, 13]
  simp only [ss, Nat.reduceBEq] at hF
  refine c_block fun Q3 t3 => ?_
  refine c_loop (fun n a w => ∃ i, n = l.length - i ∧ i ≤ l.length ∧ l.take i = m.take i ∧ Fr 26 [(0, .slice ad l.length cp), (1, .slice bd m.length dp), (12, .int .i64 (l.length : Nat)), (13, .int .i64 (i : Nat))] a ∧ Hp w0 w []) ?_ ?_
  ·
   exact ⟨_, 0, rfl, Nat.zero_le _, rfl, hF.keep [0, 1, 12, 13] rfl, hH⟩
  clear hH hF
  intro n a w hI Q4 k4 t4
  obtain ⟨i, hm, hi, he, hF, hH⟩ := hI
  refine c_sr fun ops => ?_
  refine zb hF rfl rfl rfl (b_ltn _ _ _ _) fun a hF => ?_
  refine c_n ?_
  refine c_seq fun Q5 k5 t5 => ?_
  refine c_fi hF rfl (fun h14 => ?_) (fun h14 => ?_)
  ·
   try simp only [qq] at h14
   rw [List.take_of_length_le (by omega), List.take_of_length_le (by omega)] at he
   refine wp_exit (t5.exit (t4.exit (t3.here (?_))))
   refine k2 ?_
   refine c_sr fun ops => ?_
   refine zm 1 hF rfl fun a hF => ?_
   refine c_n ?_
   replace hF := hF.sel [4]
   simp only [ss, Nat.reduceBEq] at hF
   refine wp_ret (hret (ret1 hF Tryz.results89 rfl ?_))
   exact ⟨by rw [decide_eq_true he], hH.below⟩
  try simp only [qq] at h14
  obtain ⟨b1, o1, e1, hc1⟩ := hv.elem optV_len h14
  obtain ⟨b2, o2, e2, hc2⟩ := hu.elem (i := i) optV_len (by omega)
  rw [e1, e2] at hF
  refine wp_skip ?_
  refine k5 ?_
  refine c_seq fun Q6 k6 t6 => ?_
  refine c_block fun Q7 t7 => ?_
  refine c_sr fun ops => ?_
  refine zm 2 hF rfl fun a hF => ?_
  refine c_n ?_
  refine c_seq fun Q8 k8 t8 => ?_
  refine q_reg (by kernel_rfl) (by kernel_rfl) ?_
  refine qs hF rfl rfl rfl (fun w hw => r_move hF rfl rfl) fun a hF => ?_
  refine qs hF rfl rfl rfl (fun w hw => r_move hF rfl rfl) fun a hF => ?_
  refine qs hF rfl rfl rfl (fun w hw => r_indexaddr hF _ rfl rfl rfl Tryz.underlying33 ti85 (by omega)) fun a hF => ?_
  refine qs hF rfl rfl rfl (fun w hw => r_loadagg hF rfl rfl Tryz.underlying85 ti85 rfl (fun j u hu => hw.cell (hH.below.cell (hc1 j u hu)))) fun a hF => ?_
  refine qs hF rfl rfl rfl (fun w hw => r_move hF rfl rfl) fun a hF => ?_
  refine qs hF rfl rfl rfl (fun w hw => r_move hF rfl rfl) fun a hF => ?_
  refine qs hF rfl rfl rfl (fun w hw => r_indexaddr hF _ rfl rfl rfl Tryz.underlying33 ti85 (by omega)) fun a hF => ?_
  refine qs hF rfl rfl rfl (fun w hw => r_loadagg hF rfl rfl Tryz.underlying85 ti85 rfl (fun j u hu => hw.cell (hH.below.cell (hc2 j u hu)))) fun a hF => ?_
  refine qs hF rfl rfl rfl (fun w hw => r_binA hF rfl rfl rfl (run_eqGuard_agg _ _ _ _ _ _ _ (by kernel_rfl)) (b_optne _ _)) fun a hF => ?_
  refine q_nil fun w hE => ?_
  replace hH := hH.ext hE
  refine k8 ?_
  refine c_if hF rfl (fun h24 => ?_) (fun h24 => ?_)
  ·
   try simp only [qq] at h24
   refine c_sr fun ops => ?_
   refine zm 1 hF rfl fun a hF => ?_
   refine c_n ?_
   refine wp_ret (t7.ret (t6.ret (t4.ret (t3.ret (t2.ret (hret (ret1 hF Tryz.results89 rfl ?_)))))))
   exact ⟨by rw [decide_eq_false (fun e => h24 (by subst e; rfl))], hH.below⟩
  try simp only [qq] at h24
  refine wp_skip ?_
  refine t7.norm ?_
  refine k6 ?_
  refine c_reg fun ops => ?_
  refine zb hF rfl rfl rfl (b_addn _ _ 1 (by omega)) fun a hF => ?_
  refine zm 1 hF rfl fun a hF => ?_
  refine wpList_nil ?_
  refine k4 ?_
  refine ⟨l.length - (i + 1), by omega, i + 1, rfl, by omega, ?_, ?_, hH⟩
  · rw [List.take_succ_eq_append_getElem h14, List.take_succ_eq_append_getElem (show i < m.length by omega), he, h24]
  · rw [← e1, ← e2] at hF; exact hF.keep [0, 1, 12, 13] rfl
def edEqB (a b : Ed) : Bool := decide (a.size = b.size) && decide (a.ext = b.ext) && decide (a.ver = b.ver) && decide (a.flags = b.flags) && decide (a.opts = b.opts)
theorem edEqB_iff {a b : Ed} : edEqB a b = decide (a = b) := by
  obtain ⟨x, y, z, u, v⟩ := a
  obtain ⟨x', y', z', u', v'⟩ := b
  rw [Bool.eq_iff_iff]; simp [edEqB, and_assoc]
theorem esame_spec (x y : Ed) (xv yv : Value) (w0 : World) (hx : RSl w0 2 xv x.opts.length (x.opts.flatMap optV)) (hy : RSl w0 2 yv y.opts.length (y.opts.flatMap optV)) (hl : x.opts.length < 1000000) :
    Rets Tryz.prog 72 [.agg (edV x xv).toArray, .agg (edV y yv).toArray] w0 fun r w' => r = .bool (edEqB x y) ∧ Ext w0 w' := by
  have hH := Hp.refl w0
  refine rets_start Tryz.func72 rfl Tryz.ntmps72 rfl fun a Q0 hF hret hend => ?_
  simp only [argsFrom, Nat.zero_add, Nat.reduceAdd] at hF
  refine c_sr fun ops => ?_
  refine ls_box hF hH rfl rfl rfl rfl rfl ?_
  intro a w g0_0 hH hE hF
  refine ls_box hF hH rfl rfl rfl rfl rfl ?_
  intro a w g0_1 hH hE hF
  refine zm 1 hF rfl fun a hF => ?_
  refine c_n ?_
  replace hF := hF.sel [2, 3]
  simp only [ss, Nat.reduceBEq] at hF
  refine c_sg ?_
  refine zl hF rfl (r_fieldaddr0 hF rfl rfl fd35_0) fun a hF => ?_
  refine zl hF rfl (r_load hF rfl rfl fl28 (own_cell (i := 1) (v := .int .u16 x.size) hH rfl rfl)) fun a hF => ?_
  refine zl hF rfl (r_fieldaddr0 hF rfl rfl fd35_0) fun a hF => ?_
  refine zl hF rfl (r_load hF rfl rfl fl28 (own_cell (i := 0) (v := .int .u16 y.size) hH rfl rfl)) fun a hF => ?_
  refine zb hF rfl rfl rfl (b_eqn _ _ _ _) fun a hF => ?_
  refine zm 1 hF rfl fun a hF => ?_
  refine l_ask (d := 10) hF rfl (fun g1_5 => ?_) (fun g1_5 => ?_)
  ·
   have g1_5' := g1_5; try simp only [qq] at g1_5'
   refine zn hF rfl g1_5 fun a hF => ?_
   refine zn hF rfl g1_5 fun a hF => ?_
   refine zn hF rfl g1_5 fun a hF => ?_
   refine zn hF rfl g1_5 fun a hF => ?_
   refine zn hF rfl g1_5 fun a hF => ?_
   refine zl hF rfl (r_pickf hF rfl rfl g1_5 rfl) fun a hF => ?_
   refine zm 1 hF rfl fun a hF => ?_
   refine zn hF rfl rfl fun a hF => ?_
   refine zn hF rfl rfl fun a hF => ?_
   refine zn hF rfl rfl fun a hF => ?_
   refine zn hF rfl rfl fun a hF => ?_
   refine zn hF rfl rfl fun a hF => ?_
   refine zl hF rfl (r_pickf hF rfl rfl rfl rfl) fun a hF => ?_
   refine zm 1 hF rfl fun a hF => ?_
   refine zn hF rfl rfl fun a hF => ?_
   refine zn hF rfl rfl fun a hF => ?_
   refine zn hF rfl rfl fun a hF => ?_
   refine zn hF rfl rfl fun a hF => ?_
   refine zn hF rfl rfl fun a hF => ?_
   refine zl hF rfl (r_pickf hF rfl rfl rfl rfl) fun a hF => ?_
   refine zm 1 hF rfl fun a hF => ?_
   refine zn hF rfl rfl fun a hF => ?_
   refine zn hF rfl rfl fun a hF => ?_
   refine zn hF rfl rfl fun a hF => ?_
   refine zn hF rfl rfl fun a hF => ?_
   refine zn hF rfl rfl fun a hF => ?_
   refine zl hF rfl (r_pickf hF rfl rfl rfl rfl) fun a hF => ?_
   refine zm 1 hF rfl fun a hF => ?_
   refine c_n ?_
   replace hF := hF.sel [4]
   simp only [ss, Nat.reduceBEq] at hF
   refine wp_ret (hret (ret1 hF Tryz.results72 rfl ?_))
   refine ⟨?_, hH.below⟩
   simp_all [edEqB]
  have g1_5' := g1_5; try simp only [qq] at g1_5'
  refine zy hF rfl g1_5 (r_fieldaddr0 hF rfl rfl fd35_1) fun a hF => ?_
  refine zy hF rfl g1_5 (r_load hF rfl rfl fl5 (own_cell (i := 1) (v := .int .u8 x.ext) hH rfl rfl)) fun a hF => ?_
  refine zy hF rfl g1_5 (r_fieldaddr0 hF rfl rfl fd35_1) fun a hF => ?_
  refine zy hF rfl g1_5 (r_load hF rfl rfl fl5 (own_cell (i := 0) (v := .int .u8 y.ext) hH rfl rfl)) fun a hF => ?_
  refine zy hF rfl g1_5 (zr hF rfl rfl (b_eqn _ _ _ _)) fun a hF => ?_
  refine zl hF rfl (r_pickt hF rfl rfl g1_5 rfl) fun a hF => ?_
  refine zm 1 hF rfl fun a hF => ?_
  refine l_ask (d := 17) hF rfl (fun g1_12 => ?_) (fun g1_12 => ?_)
  ·
   have g1_12' := g1_12; try simp only [qq] at g1_12'
   refine zn hF rfl g1_12 fun a hF => ?_
   refine zn hF rfl g1_12 fun a hF => ?_
   refine zn hF rfl g1_12 fun a hF => ?_
   refine zn hF rfl g1_12 fun a hF => ?_
   refine zn hF rfl g1_12 fun a hF => ?_
   refine zl hF rfl (r_pickf hF rfl rfl g1_12 rfl) fun a hF => ?_
   refine zm 1 hF rfl fun a hF => ?_
   refine zn hF rfl rfl fun a hF => ?_
   refine zn hF rfl rfl fun a hF => ?_
   refine zn hF rfl rfl fun a hF => ?_
   refine zn hF rfl rfl fun a hF => ?_
   refine zn hF rfl rfl fun a hF => ?_
   refine zl hF rfl (r_pickf hF rfl rfl rfl rfl) fun a hF => ?_
   refine zm 1 hF rfl fun a hF => ?_
   refine zn hF rfl rfl fun a hF => ?_
   refine zn hF rfl rfl fun a hF => ?_
   refine zn hF rfl rfl fun a hF => ?_
   refine zn hF rfl rfl fun a hF => ?_
   refine zn hF rfl rfl fun a hF => ?_
   refine zl hF rfl (r_pickf hF rfl rfl rfl rfl) fun a hF => ?_
   refine zm 1 hF rfl fun a hF => ?_
   refine c_n ?_
   replace hF := hF.sel [4]
   simp only [ss, Nat.reduceBEq] at hF
   refine wp_ret (hret (ret1 hF Tryz.results72 rfl ?_))
   refine ⟨?_, hH.below⟩
   simp_all [edEqB]
  have g1_12' := g1_12; try simp only [qq] at g1_12'
  refine zy hF rfl g1_12 (r_fieldaddr0 hF rfl rfl fd35_2) fun a hF => ?_
  refine zy hF rfl g1_12 (r_load hF rfl rfl fl5 (own_cell (i := 1) (v := .int .u8 x.ver) hH rfl rfl)) fun a hF => ?_
  refine zy hF rfl g1_12 (r_fieldaddr0 hF rfl rfl fd35_2) fun a hF => ?_
  refine zy hF rfl g1_12 (r_load hF rfl rfl fl5 (own_cell (i := 0) (v := .int .u8 y.ver) hH rfl rfl)) fun a hF => ?_
  refine zy hF rfl g1_12 (zr hF rfl rfl (b_eqn _ _ _ _)) fun a hF => ?_
  refine zl hF rfl (r_pickt hF rfl rfl g1_12 rfl) fun a hF => ?_
  refine zm 1 hF rfl fun a hF => ?_
  refine l_ask (d := 24) hF rfl (fun g1_19 => ?_) (fun g1_19 => ?_)
  ·
   have g1_19' := g1_19; try simp only [qq] at g1_19'
   refine zn hF rfl g1_19 fun a hF => ?_
   refine zn hF rfl g1_19 fun a hF => ?_
   refine zn hF rfl g1_19 fun a hF => ?_
   refine zn hF rfl g1_19 fun a hF => ?_
   refine zn hF rfl g1_19 fun a hF => ?_
   refine zl hF rfl (r_pickf hF rfl rfl g1_19 rfl) fun a hF => ?_
   refine zm 1 hF rfl fun a hF => ?_
   refine zn hF rfl rfl fun a hF => ?_
   refine zn hF rfl rfl fun a hF => ?_
   refine zn hF rfl rfl fun a hF => ?_
   refine zn hF rfl rfl fun a hF => ?_
   refine zn hF rfl rfl fun a hF => ?_
   refine zl hF rfl (r_pickf hF rfl rfl rfl rfl) fun a hF => ?_
   refine zm 1 hF rfl fun a hF => ?_
   refine c_n ?_
   replace hF := hF.sel [4]
   simp only [ss, Nat.reduceBEq] at hF
   refine wp_ret (hret (ret1 hF Tryz.results72 rfl ?_))
   refine ⟨?_, hH.below⟩
   simp_all [edEqB]
  have g1_19' := g1_19; try simp only [qq] at g1_19'
  refine zy hF rfl g1_19 (r_fieldaddr0 hF rfl rfl fd35_3) fun a hF => ?_
  refine zy hF rfl g1_19 (r_load hF rfl rfl fl28 (own_cell (i := 1) (v := .int .u16 x.flags) hH rfl rfl)) fun a hF => ?_
  refine zy hF rfl g1_19 (r_fieldaddr0 hF rfl rfl fd35_3) fun a hF => ?_
  refine zy hF rfl g1_19 (r_load hF rfl rfl fl28 (own_cell (i := 0) (v := .int .u16 y.flags) hH rfl rfl)) fun a hF => ?_
  refine zy hF rfl g1_19 (zr hF rfl rfl (b_eqn _ _ _ _)) fun a hF => ?_
  refine zl hF rfl (r_pickt hF rfl rfl g1_19 rfl) fun a hF => ?_
  refine zm 1 hF rfl fun a hF => ?_
  refine l_ask (d := 31) hF rfl (fun g1_26 => ?_) (fun g1_26 => ?_)
  ·
   have g1_26' := g1_26; try simp only [qq] at g1_26'
   refine zn hF rfl g1_26 fun a hF => ?_
   refine zn hF rfl g1_26 fun a hF => ?_
   refine zn hF rfl g1_26 fun a hF => ?_
   refine zn hF rfl g1_26 fun a hF => ?_
   refine zn hF rfl g1_26 fun a hF => ?_
   refine zl hF rfl (r_pickf hF rfl rfl g1_26 rfl) fun a hF => ?_
   refine zm 1 hF rfl fun a hF => ?_
   refine c_n ?_
   replace hF := hF.sel [4]
   simp only [ss, Nat.reduceBEq] at hF
   refine wp_ret (hret (ret1 hF Tryz.results72 rfl ?_))
   refine ⟨?_, hH.below⟩
   simp_all [edEqB]
  have g1_26' := g1_26; try simp only [qq] at g1_26'
  refine zy hF rfl g1_26 (r_fieldaddr0 hF rfl rfl fd35_4) fun a hF => ?_
  refine zy hF rfl g1_26 (r_load hF rfl rfl fl33 (own_cell (i := 1) (v := xv) hH rfl rfl)) fun a hF => ?_
  refine zy hF rfl g1_26 (r_fieldaddr0 hF rfl rfl fd35_4) fun a hF => ?_
  refine zy hF rfl g1_26 (r_load hF rfl rfl fl33 (own_cell (i := 0) (v := yv) hH rfl rfl)) fun a hF => ?_
  refine zyc hF rfl g1_26 rfl fn89 (optsEq_spec x.opts y.opts xv yv _ (hx.ext hH.below) (hy.ext hH.below) hl) ?_
  rintro _ w ⟨rfl, hE⟩ a hF
  replace hH := hH.ext hE
  refine zl hF rfl (r_pickt hF rfl rfl g1_26 rfl) fun a hF => ?_
  refine zm 1 hF rfl fun a hF => ?_
  refine c_n ?_
  replace hF := hF.sel [4]
  simp only [ss, Nat.reduceBEq] at hF
  refine wp_ret (hret (ret1 hF Tryz.results72 rfl ?_))
  refine ⟨?_, hH.below⟩
  simp_all [edEqB]
theorem bare_spec (x : Ed) (xv : Value) (w0 : World) (hx : RSl w0 2 xv x.opts.length (x.opts.flatMap optV)) (hl : x.opts.length < 1000000) :
    Rets Tryz.prog 47 [.agg (edV x xv).toArray] w0 fun r w' => r = .bool (bareE x) ∧ Ext w0 w' := by
  have hH := Hp.refl w0
  have he : edEqB x ⟨0, 0, 0, 0, []⟩ = bareE x := by
    unfold edEqB bareE
    have : decide (x.opts = []) = decide (x.opts.length = 0) := by rw [decide_eq_decide]; exact List.length_eq_zero_iff.symm
    simp only [this]
  obtain ⟨xad, xcp, hxv⟩ := hx.shape
  refine rets_start Tryz.func47 rfl Tryz.ntmps47 rfl fun a Q0 hF hret hend => ?_
  simp only [argsFrom, Nat.zero_add, Nat.reduceAdd] at hF
  refine c_sr fun ops => ?_
  refine ls_box hF hH rfl rfl rfl rfl rfl ?_
  intro a w g0_0 hH hE hF
  refine zm 1 hF rfl fun a hF => ?_
  refine c_n ?_
  replace hF := hF.sel [1]
  simp only [ss, Nat.reduceBEq] at hF
  refine c_sr fun ops => ?_
  refine zl hF rfl (r_loadagg hF rfl rfl Tryz.underlying35 ti35 rfl (own_agg (i := 0) hH rfl)) fun a hF => ?_
  refine zl hF rfl (r_build hF rfl rfl (bd35 _)) fun a hF => ?_
  refine zc hF rfl rfl fn72 (esame_spec x ⟨0, 0, 0, 0, []⟩ xv (.slice none 0 0) _ (hx.ext hH.below) (RSl.nil _ _) hl) ?_
  rintro _ w ⟨rfl, hE⟩ a hF
  replace hH := hH.ext hE
  refine zm 1 hF rfl fun a hF => ?_
  refine c_n ?_
  replace hF := hF.sel [2]
  simp only [ss, Nat.reduceBEq] at hF
  refine wp_ret (hret (ret1 hF Tryz.results47 rfl ?_))
  exact ⟨by rw [he], hH.below⟩
theorem sections_spec (g : Nat) (w0 : World) : Rets Tryz.prog 26 [ptr g] w0 fun v w' => v = .agg #[.pointer none, ptrO g 12, ptrO g 13, ptrO g 14] ∧ Ext w0 w' := by
  have hH := Hp.refl w0
  refine rets_start Tryz.func26 rfl Tryz.ntmps26 rfl fun a Q0 hF hret hend => ?_
  simp only [argsFrom, Nat.zero_add, Nat.reduceAdd] at hF
  refine c_sr fun ops => ?_
  refine ls_alloc hF hH rfl rfl rfl rfl zv72 ?_
  intro a w g0_0 hH hE hF
  refine c_n ?_
  replace hF := hF.sel [0, 2]
  simp only [ss, Nat.reduceBEq] at hF
  refine c_seq fun Q1 k1 t1 => ?_
  refine c_planF hF [] [0, 1, 2, 3, 4, 5, 6, 7, 8] [] [] [9, 10] [0, 1, 2, 3, 4, 5, 6, 7, 8] (hH.S) (by kernel_rfl) (by kernel_rfl) rfl ?_
  refine ps hF rfl rfl rfl rfl (fun w => r_move hF rfl rfl) fun a hF => ?_
  refine ps_nil hF rfl rfl rfl rfl rfl fun a hF => ?_
  refine ps hF rfl rfl rfl rfl (fun w => r_fieldaddr0 hF rfl rfl fd37_2) fun a hF => ?_
  refine ps hF rfl rfl rfl rfl (fun w => r_move hF rfl rfl) fun a hF => ?_
  refine ps_nil hF rfl rfl rfl rfl rfl fun a hF => ?_
  refine ps hF rfl rfl rfl rfl (fun w => r_fieldaddr0 hF rfl rfl fd37_3) fun a hF => ?_
  refine ps hF rfl rfl rfl rfl (fun w => r_move hF rfl rfl) fun a hF => ?_
  refine ps_nil hF rfl rfl rfl rfl rfl fun a hF => ?_
  refine ps hF rfl rfl rfl rfl (fun w => r_fieldaddr0 hF rfl rfl fd37_4) fun a hF => ?_
  refine pl_start fun w hE => ?_
  replace hH := hH.ext hE
  refine ⟨hH, ?_⟩
  refine pt ?_
  refine tt ?_
  refine zl hF rfl (r_build hF rfl rfl (bd72_1_2_3 _ _ _ _ (rfl) (rfl) (rfl))) fun a hF => ?_
  refine ls_storeagg 0 hF hH rfl rfl rfl rfl rfl ti72 rfl (rfl) (rfl) (by simp [Value.oneCell']) ?_
  intro w hH
  refine pt_end ?_
  replace hF := hF.sel [2]
  simp only [ss, Nat.reduceBEq] at hF
  refine k1 ?_
  refine wp_ret (hret (retc1 (fn := Tryz.f26) (t := 2) (i := 0) hF hH Tryz.results26 rfl (by kernel_rfl) ti72 rfl rfl ?_))
  exact ⟨rfl, hH.below⟩
end Go.Proofs.YtpoebplhemimmaaGreatDoor
namespace Go.Proofs.YtpoebplhemimmaaGreatDoor
open Go.RowKit
set_option linter.unusedVariables false
set_option linter.unusedSimpArgs false
set_option maxHeartbeats 1000000

def qnay (q : Que) : Bool := !mayB q.name
def rnay (r : Rec) : Bool := !mayB r.name || !dmayB r.kind r.data
theorem qmay_spec (q : Que) (h : q.name.length < 300000) (w0 : World) : Rets Tryz.prog 49 [.agg (quV q).toArray] w0 fun r w' => r = .bool (qnay q) ∧ Ext w0 w' := by
  have hH := Hp.refl w0
  refine rets_start Tryz.func49 rfl Tryz.ntmps49 rfl fun a Q0 hF hret hend => ?_
  simp only [argsFrom, Nat.zero_add, Nat.reduceAdd] at hF
  refine c_sr fun ops => ?_
  refine ls_box hF hH rfl rfl rfl rfl rfl ?_
  intro a w g0_0 hH hE hF
  refine zm 1 hF rfl fun a hF => ?_
  refine c_n ?_
  replace hF := hF.sel [1]
  simp only [ss, Nat.reduceBEq] at hF
  refine c_sr fun ops => ?_
  refine zl hF rfl (r_fieldaddr0 hF rfl rfl fd53_0) fun a hF => ?_
  refine zl hF rfl (r_load hF rfl rfl fl9 (own_cell (i := 0) (v := .string (mk q.name)) hH rfl rfl)) fun a hF => ?_
  refine zc hF rfl rfl fn50 (may_spec q.name (by omega) _) ?_
  rintro _ w ⟨rfl, hE⟩ a hF
  replace hH := hH.ext hE
  refine zl hF rfl (r_not hF rfl rfl) fun a hF => ?_
  refine zm 1 hF rfl fun a hF => ?_
  refine c_n ?_
  replace hF := hF.sel [2]
  simp only [ss, Nat.reduceBEq] at hF
  refine wp_ret (hret (ret1 hF Tryz.results49 rfl ?_))
  exact ⟨rfl, hH.below⟩
theorem rmay_spec (r : Rec) (h : r.name.length < 300000) (hd : r.data.length < 300000) (w0 : World) (hG : GX w0) : Rets Tryz.prog 52 [.agg (recV r).toArray] w0 fun v w' => v = .bool (rnay r) ∧ Ext w0 w' := by
  have hH := Hp.refl w0
  refine rets_start Tryz.func52 rfl Tryz.ntmps52 rfl fun a Q0 hF hret hend => ?_
  simp only [argsFrom, Nat.zero_add, Nat.reduceAdd] at hF
  refine c_sr fun ops => ?_
  refine ls_box hF hH rfl rfl rfl rfl rfl ?_
  intro a w g0_0 hH hE hF
  refine zm 1 hF rfl fun a hF => ?_
  refine c_n ?_
  replace hF := hF.sel [1]
  simp only [ss, Nat.reduceBEq] at hF
  refine c_sg ?_
  refine zl hF rfl (r_fieldaddr0 hF rfl rfl fd56_0) fun a hF => ?_
  refine zl hF rfl (r_load hF rfl rfl fl9 (own_cell (i := 0) (v := .string (mk r.name)) hH rfl rfl)) fun a hF => ?_
  refine zc hF rfl rfl fn50 (may_spec r.name (by omega) _) ?_
  rintro _ w ⟨rfl, hE⟩ a hF
  replace hH := hH.ext hE
  refine zl hF rfl (r_not hF rfl rfl) fun a hF => ?_
  refine zm 1 hF rfl fun a hF => ?_
  refine ls_ask (d := 7) hF rfl (fun g1_4 => ?_) (fun g1_4 => ?_)
  ·
   have g1_4' := g1_4; try simp only [qq] at g1_4'
   refine zn hF rfl g1_4 fun a hF => ?_
   refine zn hF rfl g1_4 fun a hF => ?_
   refine zn hF rfl g1_4 fun a hF => ?_
   refine zn hF rfl g1_4 fun a hF => ?_
   refine zn hF rfl g1_4 fun a hF => ?_
   refine zn hF rfl g1_4 fun a hF => ?_
   refine zl hF rfl (r_pickt hF rfl rfl g1_4 rfl) fun a hF => ?_
   refine zm 1 hF rfl fun a hF => ?_
   refine c_n ?_
   replace hF := hF.sel [2]
   simp only [ss, Nat.reduceBEq] at hF
   refine wp_ret (hret (ret1 hF Tryz.results52 rfl ?_))
   exact ⟨by simp_all [rnay], hH.below⟩
  have g1_4' := g1_4; try simp only [qq] at g1_4'
  refine zy hF rfl g1_4 (r_fieldaddr0 hF rfl rfl fd56_1) fun a hF => ?_
  refine zy hF rfl g1_4 (r_load hF rfl rfl fl28 (own_cell (i := 0) (v := .int .u16 r.kind) hH rfl rfl)) fun a hF => ?_
  refine zy hF rfl g1_4 (r_fieldaddr0 hF rfl rfl fd56_4) fun a hF => ?_
  refine zy hF rfl g1_4 (r_load hF rfl rfl fl9 (own_cell (i := 0) (v := .string (mk r.data)) hH rfl rfl)) fun a hF => ?_
  refine zyc hF rfl g1_4 rfl fn53 (dmay_spec r.kind r.data (by omega) _ (hG.ext hH.below).errs) ?_
  rintro _ w ⟨rfl, hE⟩ a hF
  replace hH := hH.ext hE
  refine zy hF rfl g1_4 (r_not hF rfl rfl) fun a hF => ?_
  refine zl hF rfl (r_pickf hF rfl rfl g1_4 rfl) fun a hF => ?_
  refine zm 1 hF rfl fun a hF => ?_
  refine c_n ?_
  replace hF := hF.sel [2]
  simp only [ss, Nat.reduceBEq] at hF
  refine wp_ret (hret (ret1 hF Tryz.results52 rfl ?_))
  exact ⟨by simp_all [rnay], hH.below⟩
theorem idxq_spec (l : List Que) (v : Value) (w0 : World) (hv : RSl w0 3 v l.length (l.flatMap quV)) (hl : l.length < 1000000) (hb : ∀ q ∈ l, q.name.length < 300000) :
    Rets Tryz.prog 73 [v, .func (.func 49) #[] #[]] w0 fun r w' => (∃ j : Int, r = .int .i64 j ∧ decide (0 ≤ j) = l.any qnay) ∧ Ext w0 w' := by
  have hH := Hp.refl w0
  obtain ⟨ad, cp, rfl⟩ : ∃ ad cp, v = .slice ad l.length cp := hv.shape
  refine rets_start Tryz.func73 rfl Tryz.ntmps73 rfl fun a Q0 hF hret hend => ?_
  simp only [argsFrom, Nat.zero_add, Nat.reduceAdd] at hF
  refine c_sr fun ops => ?_
  refine zm 1 hF rfl fun a hF => ?_
  refine c_n ?_
  replace hF := hF.sel [0, 1]
  simp only [ss, Nat.reduceBEq] at hF
  refine c_seq fun Q1 k1 t1 => ?_
  refine c_sr fun ops => ?_
  refine zm 1 hF rfl fun a hF => ?_
  refine zl hF rfl (r_len_sl hF rfl rfl Tryz.underlying31) fun a hF => ?_
  refine zm 1 hF rfl fun a hF => ?_
  refine c_n ?_
  replace hF := hF.sel [0, 1, 7, 8]
  simp only [ss, Nat.reduceBEq] at hF
  refine c_block fun Q2 t2 => ?_
  refine c_loop (fun n a w => ∃ i, n = l.length - i ∧ i ≤ l.length ∧ l.any qnay = (l.drop i).any qnay ∧ Fr 19 [(0, .slice ad l.length cp), (1, .func (.func 49) #[] #[]), (7, .int .i64 (l.length : Nat)), (8, .int .i64 (i : Nat))] a ∧ Hp w0 w []) ?_ ?_
  ·
   exact ⟨_, 0, rfl, Nat.zero_le _, rfl, hF.keep [0, 1, 7, 8] rfl, hH⟩
  clear hH hF
  intro n a w hI Q3 k3 t3
  obtain ⟨i, hm, hi, hc, hF, hH⟩ := hI
  refine c_sr fun ops => ?_
  refine zb hF rfl rfl rfl (b_ltn _ _ _ _) fun a hF => ?_
  refine c_n ?_
  refine c_seq fun Q4 k4 t4 => ?_
  refine c_fi hF rfl (fun h9 => ?_) (fun h9 => ?_)
  ·
   try simp only [qq] at h9
   rw [List.drop_eq_nil_of_le (by omega)] at hc
   refine wp_exit (t4.exit (t3.exit (t2.here (?_))))
   refine k1 ?_
   refine c_sr fun ops => ?_
   refine zm 1 hF rfl fun a hF => ?_
   refine c_n ?_
   replace hF := hF.sel [4]
   simp only [ss, Nat.reduceBEq] at hF
   refine wp_ret (hret (ret1 hF Tryz.results73 rfl ?_))
   exact ⟨⟨_, rfl, by rw [hc]; rfl⟩, hH.below⟩
  try simp only [qq] at h9
  obtain ⟨b, off, e1, hcell⟩ := (hv.ext hH.below).elem (fun _ => rfl) h9
  rw [e1] at hF
  have hbq := hb _ (List.getElem_mem h9)
  rw [List.drop_eq_getElem_cons h9, List.any_cons] at hc
  refine wp_skip ?_
  refine k4 ?_
  refine c_seq fun Q5 k5 t5 => ?_
  refine c_block fun Q6 t6 => ?_
  refine c_sr fun ops => ?_
  refine zm 2 hF rfl fun a hF => ?_
  refine c_n ?_
  refine c_sr fun ops => ?_
  refine zm 3 hF rfl fun a hF => ?_
  refine zl hF rfl (r_indexaddr hF _ rfl rfl rfl Tryz.underlying31 ti53 (by omega)) fun a hF => ?_
  refine zl hF rfl (r_loadagg hF rfl rfl Tryz.underlying53 ti53 rfl (hcell)) fun a hF => ?_
  refine ls_callv hF rfl rfl rfl rfl rfl rfl fn49 (qmay_spec _ hbq _) ?_
  rintro _ w ⟨rfl, hE⟩ a hF
  replace hH := hH.ext hE
  refine c_n ?_
  refine c_if hF rfl (fun h16 => ?_) (fun h16 => ?_)
  ·
   try simp only [qq] at h16
   refine c_sr fun ops => ?_
   refine zm 2 hF rfl fun a hF => ?_
   refine c_n ?_
   refine wp_ret (t6.ret (t5.ret (t3.ret (t2.ret (t1.ret (hret (ret1 hF Tryz.results73 rfl ?_)))))))
   exact ⟨⟨_, rfl, by rw [hc, h16]; simp⟩, hH.below⟩
  try simp only [qq] at h16
  refine wp_skip ?_
  refine t6.norm ?_
  refine k5 ?_
  refine c_reg fun ops => ?_
  refine zb hF rfl rfl rfl (b_addn _ _ 1 (by omega)) fun a hF => ?_
  refine zm 1 hF rfl fun a hF => ?_
  refine wpList_nil ?_
  refine k3 ?_
  rw [← e1] at hF
  exact ⟨l.length - (i + 1), by omega, i + 1, rfl, h9, by rw [hc, h16, Bool.false_or], hF.keep [0, 1, 7, 8] rfl, hH⟩
theorem idxr_spec (l : List Rec) (v : Value) (w0 : World) (hG : GX w0) (hv : RSl w0 5 v l.length (l.flatMap recV)) (hl : l.length < 1000000) (hb : ∀ r ∈ l, r.name.length < 300000 ∧ r.data.length < 300000) :
    Rets Tryz.prog 75 [v, .func (.func 52) #[] #[]] w0 fun r w' => (∃ j : Int, r = .int .i64 j ∧ decide (0 ≤ j) = l.any rnay) ∧ Ext w0 w' := by
  have hH := Hp.refl w0
  obtain ⟨ad, cp, rfl⟩ : ∃ ad cp, v = .slice ad l.length cp := hv.shape
  refine rets_start Tryz.func75 rfl Tryz.ntmps75 rfl fun a Q0 hF hret hend => ?_
  simp only [argsFrom, Nat.zero_add, Nat.reduceAdd] at hF
  refine c_sr fun ops => ?_
  refine zm 1 hF rfl fun a hF => ?_
  refine c_n ?_
  replace hF := hF.sel [0, 1]
  simp only [ss, Nat.reduceBEq] at hF
  refine c_seq fun Q1 k1 t1 => ?_
  refine c_sr fun ops => ?_
  refine zm 1 hF rfl fun a hF => ?_
  refine zl hF rfl (r_len_sl hF rfl rfl Tryz.underlying32) fun a hF => ?_
  refine zm 1 hF rfl fun a hF => ?_
  refine c_n ?_
  replace hF := hF.sel [0, 1, 7, 8]
  simp only [ss, Nat.reduceBEq] at hF
  refine c_block fun Q2 t2 => ?_
  refine c_loop (fun n a w => ∃ i, n = l.length - i ∧ i ≤ l.length ∧ l.any rnay = (l.drop i).any rnay ∧ Fr 19 [(0, .slice ad l.length cp), (1, .func (.func 52) #[] #[]), (7, .int .i64 (l.length : Nat)), (8, .int .i64 (i : Nat))] a ∧ Hp w0 w []) ?_ ?_
  ·
   exact ⟨_, 0, rfl, Nat.zero_le _, rfl, hF.keep [0, 1, 7, 8] rfl, hH⟩
  clear hH hF
  intro n a w hI Q3 k3 t3
  obtain ⟨i, hm, hi, hc, hF, hH⟩ := hI
  refine c_sr fun ops => ?_
  refine zb hF rfl rfl rfl (b_ltn _ _ _ _) fun a hF => ?_
  refine c_n ?_
  refine c_seq fun Q4 k4 t4 => ?_
  refine c_fi hF rfl (fun h9 => ?_) (fun h9 => ?_)
  ·
   try simp only [qq] at h9
   rw [List.drop_eq_nil_of_le (by omega)] at hc
   refine wp_exit (t4.exit (t3.exit (t2.here (?_))))
   refine k1 ?_
   refine c_sr fun ops => ?_
   refine zm 1 hF rfl fun a hF => ?_
   refine c_n ?_
   replace hF := hF.sel [4]
   simp only [ss, Nat.reduceBEq] at hF
   refine wp_ret (hret (ret1 hF Tryz.results75 rfl ?_))
   exact ⟨⟨_, rfl, by rw [hc]; rfl⟩, hH.below⟩
  try simp only [qq] at h9
  obtain ⟨b, off, e1, hcell⟩ := (hv.ext hH.below).elem (fun _ => rfl) h9
  rw [e1] at hF
  have hbq := hb _ (List.getElem_mem h9)
  rw [List.drop_eq_getElem_cons h9, List.any_cons] at hc
  refine wp_skip ?_
  refine k4 ?_
  refine c_seq fun Q5 k5 t5 => ?_
  refine c_block fun Q6 t6 => ?_
  refine c_sr fun ops => ?_
  refine zm 2 hF rfl fun a hF => ?_
  refine c_n ?_
  refine c_sr fun ops => ?_
  refine zm 3 hF rfl fun a hF => ?_
  refine zl hF rfl (r_indexaddr hF _ rfl rfl rfl Tryz.underlying32 ti56 (by omega)) fun a hF => ?_
  refine zl hF rfl (r_loadagg hF rfl rfl Tryz.underlying56 ti56 rfl (hcell)) fun a hF => ?_
  refine ls_callv hF rfl rfl rfl rfl rfl rfl fn52 (rmay_spec _ hbq.1 hbq.2 _ (hG.ext hH.below)) ?_
  rintro _ w ⟨rfl, hE⟩ a hF
  replace hH := hH.ext hE
  refine c_n ?_
  refine c_if hF rfl (fun h16 => ?_) (fun h16 => ?_)
  ·
   try simp only [qq] at h16
   refine c_sr fun ops => ?_
   refine zm 2 hF rfl fun a hF => ?_
   refine c_n ?_
   refine wp_ret (t6.ret (t5.ret (t3.ret (t2.ret (t1.ret (hret (ret1 hF Tryz.results75 rfl ?_)))))))
   exact ⟨⟨_, rfl, by rw [hc, h16]; simp⟩, hH.below⟩
  try simp only [qq] at h16
  refine wp_skip ?_
  refine t6.norm ?_
  refine k5 ?_
  refine c_reg fun ops => ?_
  refine zb hF rfl rfl rfl (b_addn _ _ 1 (by omega)) fun a hF => ?_
  refine zm 1 hF rfl fun a hF => ?_
  refine wpList_nil ?_
  refine k3 ?_
  rw [← e1] at hF
  exact ⟨l.length - (i + 1), by omega, i + 1, rfl, h9, by rw [hc, h16, Bool.false_or], hF.keep [0, 1, 7, 8] rfl, hH⟩
theorem hasq_spec (l : List Que) (v : Value) (w0 : World) (hv : RSl w0 3 v l.length (l.flatMap quV)) (hl : l.length < 1000000) (hb : ∀ q ∈ l, q.name.length < 300000) :
    Rets Tryz.prog 48 [v, .func (.func 49) #[] #[]] w0 fun r w' => r = .bool (l.any qnay) ∧ Ext w0 w' := by
  have hH := Hp.refl w0
  refine rets_start Tryz.func48 rfl Tryz.ntmps48 rfl fun a Q0 hF hret hend => ?_
  simp only [argsFrom, Nat.zero_add, Nat.reduceAdd] at hF
  refine c_sr fun ops => ?_
  refine zm 1 hF rfl fun a hF => ?_
  refine c_n ?_
  replace hF := hF.sel [0, 1]
  simp only [ss, Nat.reduceBEq] at hF
  refine c_sr fun ops => ?_
  refine zm 2 hF rfl fun a hF => ?_
  refine zc hF rfl rfl fn73 (idxq_spec l v _ (hv.ext hH.below) hl hb) ?_
  rintro _ w ⟨⟨j, rfl, hj⟩, hE1⟩ a hF
  replace hH := hH.ext hE1
  refine zb hF rfl rfl rfl (b_ge _ _ _ _) fun a hF => ?_
  refine zm 1 hF rfl fun a hF => ?_
  refine c_n ?_
  replace hF := hF.sel [4]
  simp only [ss, Nat.reduceBEq] at hF
  refine wp_ret (hret (ret1 hF Tryz.results48 rfl ?_))
  exact ⟨by rw [hj], hH.below⟩
theorem hasr_spec (l : List Rec) (v : Value) (w0 : World) (hG : GX w0) (hv : RSl w0 5 v l.length (l.flatMap recV)) (hl : l.length < 1000000) (hb : ∀ r ∈ l, r.name.length < 300000 ∧ r.data.length < 300000) :
    Rets Tryz.prog 51 [v, .func (.func 52) #[] #[]] w0 fun r w' => r = .bool (l.any rnay) ∧ Ext w0 w' := by
  have hH := Hp.refl w0
  refine rets_start Tryz.func51 rfl Tryz.ntmps51 rfl fun a Q0 hF hret hend => ?_
  simp only [argsFrom, Nat.zero_add, Nat.reduceAdd] at hF
  refine c_sr fun ops => ?_
  refine zm 1 hF rfl fun a hF => ?_
  refine c_n ?_
  replace hF := hF.sel [0, 1]
  simp only [ss, Nat.reduceBEq] at hF
  refine c_sr fun ops => ?_
  refine zm 2 hF rfl fun a hF => ?_
  refine zc hF rfl rfl fn75 (idxr_spec l v _ (hG.ext hH.below) (hv.ext hH.below) hl hb) ?_
  rintro _ w ⟨⟨j, rfl, hj⟩, hE1⟩ a hF
  replace hH := hH.ext hE1
  refine zb hF rfl rfl rfl (b_ge _ _ _ _) fun a hF => ?_
  refine zm 1 hF rfl fun a hF => ?_
  refine c_n ?_
  replace hF := hF.sel [4]
  simp only [ss, Nat.reduceBEq] at hF
  refine wp_ret (hret (ret1 hF Tryz.results51 rfl ?_))
  exact ⟨by rw [hj], hH.below⟩
/-- A message is not too great to be spoken of. -/
structure MsgB (m : Msg) : Prop where
  qs : m.qs.length < 300000 ∧ ∀ q ∈ m.qs, q.name.length < 300000
  ans : m.ans.length < 300000 ∧ ∀ r ∈ m.ans, r.name.length < 300000 ∧ r.data.length < 300000
  auth : m.auth.length < 300000 ∧ ∀ r ∈ m.auth, r.name.length < 300000 ∧ r.data.length < 300000
  extra : m.extra.length < 300000 ∧ ∀ r ∈ m.extra, r.name.length < 300000 ∧ r.data.length < 300000
  opts : m.ed.opts.length < 300000 ∧ ∀ o ∈ m.ed.opts, o.data.length < 300000
def secL (m : Msg) : Nat → List Rec
  | 1 => m.ans
  | 2 => m.auth
  | 3 => m.extra
  | _ => []
theorem recsV_fm (l : List Rec) : recsV l = l.flatMap recV := by simp [recsV, List.flatMap_def]
/-- A section of a message. -/
theorem sec_at {w : World} {m : Msg} {qv av uv xv ov : Value} (hR : MsgR w m qv av uv xv ov) (hB : MsgB m) {i : Nat} (h1 : 1 ≤ i) (h4 : i < 4) :
    ∃ ad cp, (msgV m qv av uv xv ov)[11 + i]? = some (.slice ad (secL m i).length cp) ∧ RSl w 5 (.slice ad (secL m i).length cp) (secL m i).length ((secL m i).flatMap recV) ∧ (secL m i).length < 300000 ∧ ∀ r ∈ secL m i, r.name.length < 300000 ∧ r.data.length < 300000 := by
  rcases (show i = 1 ∨ i = 2 ∨ i = 3 by omega) with rfl | rfl | rfl
  · obtain ⟨ad, cp, rfl⟩ := hR.ans.shape
    exact ⟨ad, cp, rfl, by rw [← recsV_fm]; exact hR.ans, hB.ans.1, hB.ans.2⟩
  · obtain ⟨ad, cp, rfl⟩ := hR.auth.shape
    exact ⟨ad, cp, rfl, by rw [← recsV_fm]; exact hR.auth, hB.auth.1, hB.auth.2⟩
  · obtain ⟨ad, cp, rfl⟩ := hR.extra.shape
    exact ⟨ad, cp, rfl, by rw [← recsV_fm]; exact hR.extra, hB.extra.1, hB.extra.2⟩
theorem recsMay_any (l : List Rec) : recsMay l = (decide (l.length ≤ 65535) && !l.any rnay) := by
  unfold recsMay
  congr 1
  rw [List.not_any_eq_all_not]
  congr 1; funext r
  simp [rnay]
theorem qs_any (l : List Que) : (l.all fun q => mayB q.name) = !l.any qnay := by
  rw [List.not_any_eq_all_not]
  congr 1; funext r
  simp [qnay]
def headOk (h : Hd) : Bool := decide (h.op ≤ 15) && decide (h.code ≤ 15)
theorem mayM_eq (m : Msg) : mayM m = (headOk m.hd && (m.has || bareE m.ed) && decide (m.qs.length ≤ 65535) && !m.qs.any qnay && recsMay (secL m 1) && recsMay (secL m 2) && recsMay (secL m 3) && (!m.has || decide (m.extra.length < 65535))) := by
  unfold mayM headOk; rw [qs_any]; rfl
abbrev secP (g i : Nat) : Value := .pointer (if i = 0 then none else some ⟨g, 11 + i, none⟩)
theorem secP_at {g i : Nat} (h : i < 4) : (#[.pointer none, ptrO g 12, ptrO g 13, ptrO g 14] : Array Value)[i]? = some (secP g i) := by
  rcases (show i = 0 ∨ i = 1 ∨ i = 2 ∨ i = 3 by omega) with rfl | rfl | rfl | rfl <;> rfl
theorem may_mspec (m : Msg) (qv av uv xv ov : Value) (w0 : World) (hG : GX w0) (hR : MsgR w0 m qv av uv xv ov) (hL : MsgL m) (hB : MsgB m) :
    Rets Tryz.prog 15 [.agg (msgV m qv av uv xv ov).toArray] w0 fun r w' => r = .bool (mayM m) ∧ Ext w0 w' := by
  have hH := Hp.refl w0
  obtain ⟨qad, qcp, hqv⟩ := hR.qs.shape
  obtain ⟨oad, ocp, hov⟩ := hR.opts.shape
  obtain ⟨xad, xcp, hxv⟩ := hR.extra.shape
  subst hqv hov hxv
  obtain ⟨qa, hqa⟩ : ∃ b, m.qs.any qnay = b := ⟨_, rfl⟩
  obtain ⟨en, hen⟩ : ∃ en : Nat, (if m.hd.op ≤ 15 ∧ m.hd.code ≤ 15 then 0 else 1 : Nat) = en := ⟨_, rfl⟩
  obtain ⟨fl, hfl⟩ : ∃ fl : Nat, (if m.hd.op ≤ 15 ∧ m.hd.code ≤ 15 then flagsN m.hd else 0 : Nat) = fl := ⟨_, rfl⟩
  have hok : headOk m.hd = decide (en = 0) := by
    rw [← hen]; unfold headOk
    by_cases h1 : m.hd.op ≤ 15 <;> by_cases h2 : m.hd.code ≤ 15 <;> simp [h1, h2]
  refine rets_start Tryz.func15 rfl Tryz.ntmps15 rfl fun a Q0 hF hret hend => ?_
  simp only [argsFrom, Nat.zero_add, Nat.reduceAdd] at hF
  refine c_sr fun ops => ?_
  refine ls_box hF hH rfl rfl rfl rfl rfl ?_
  intro a w g0_0 hH hE hF
  refine zm 1 hF rfl fun a hF => ?_
  refine c_n ?_
  replace hF := hF.sel [1]
  simp only [ss, Nat.reduceBEq] at hF
  replace hH : Hp w0 w [(g0_0, .cells (msgV m (.slice qad m.qs.length qcp) av uv (.slice xad m.extra.length xcp) (.slice oad m.ed.opts.length ocp)).toArray 37 (0, 0))] := hH
  refine c_sr fun ops => ?_
  refine zl hF rfl (r_fieldaddr0 hF rfl rfl fd37_0) fun a hF => ?_
  refine zl hF rfl (r_loadagg hF rfl rfl Tryz.underlying30 ti30 rfl (mem_sub (off := 0) (cs := hdV m.hd) hH (List.mem_cons_self ..) (fun j u hu => by rw [Nat.zero_add, List.getElem?_toArray, msgV, List.getElem?_append_left (List.getElem?_eq_some_iff.1 hu).1]; exact hu))) fun a hF => ?_
  refine zc hF rfl rfl fn46 (flags_spec m.hd hL.hd _ (hG.ext hH.below)) ?_
  rintro _ w ⟨rfl, hE⟩ a hF
  rw [hen, hfl] at hF; replace hH := hH.ext hE
  refine zm 5 hF rfl fun a hF => ?_
  refine c_n ?_
  replace hF := hF.sel [1, 4]
  simp only [ss, Nat.reduceBEq] at hF
  refine c_cut (fun a w => (headOk m.hd && (m.has || bareE m.ed) && decide (m.qs.length ≤ 65535) && !m.qs.any qnay) = true ∧ Fr 64 [(1, ptr g0_0)] a ∧ Hp w0 w [(g0_0, .cells (msgV m (.slice qad m.qs.length qcp) av uv (.slice xad m.extra.length xcp) (.slice oad m.ed.opts.length ocp)).toArray 37 (0, 0))]) (fun Q1 k1 t1 => ?_) ?_
  ·
   refine c_sg ?_
   refine zm 1 hF rfl fun a hF => ?_
   refine zb hF rfl rfl rfl (b_nen _ _ _ 0) fun a hF => ?_
   refine zm 1 hF rfl fun a hF => ?_
   refine ls_ask (d := 15) hF rfl (fun g2_2 => ?_) (fun g2_2 => ?_)
   ·
    have g2_2' := g2_2; try simp only [qq] at g2_2'
    refine zn hF rfl g2_2 fun a hF => ?_
    refine zn hF rfl g2_2 fun a hF => ?_
    refine zn hF rfl g2_2 fun a hF => ?_
    refine zn hF rfl g2_2 fun a hF => ?_
    refine lsu hF rfl rfl rfl rfl rfl fun a hF => ?_
    refine lsu hF rfl rfl rfl rfl rfl fun a hF => ?_
    refine lsu hF rfl rfl rfl rfl rfl fun a hF => ?_
    refine lsu hF rfl rfl rfl rfl rfl fun a hF => ?_
    refine zn hF rfl g2_2 fun a hF => ?_
    refine zl hF rfl (r_pickt hF rfl rfl g2_2 rfl) fun a hF => ?_
    refine zm 1 hF rfl fun a hF => ?_
    refine zn hF rfl rfl fun a hF => ?_
    refine zn hF rfl rfl fun a hF => ?_
    refine zn hF rfl rfl fun a hF => ?_
    refine zn hF rfl rfl fun a hF => ?_
    refine zl hF rfl (r_pickt hF rfl rfl rfl rfl) fun a hF => ?_
    refine zm 1 hF rfl fun a hF => ?_
    refine zn hF rfl rfl fun a hF => ?_
    refine zn hF rfl rfl fun a hF => ?_
    refine zn hF rfl rfl fun a hF => ?_
    refine zl hF rfl (r_pickt hF rfl rfl rfl rfl) fun a hF => ?_
    refine c_n ?_
    refine c_yes hF rfl rfl ?_
    refine c_sr fun ops => ?_
    refine zm 1 hF rfl fun a hF => ?_
    refine c_n ?_
    replace hF := hF.sel [2]
    simp only [ss, Nat.reduceBEq] at hF
    refine wp_ret (t1.ret (hret (ret1 hF Tryz.results15 rfl ?_)))
    refine ⟨?_, hH.below⟩
    rw [mayM_eq, hok, hqa]
    clear hqa
    simp_all
    try omega
   have g2_2' := g2_2; try simp only [qq] at g2_2'
   refine zy hF rfl g2_2 (r_fieldaddr0 hF rfl rfl fd37_5) fun a hF => ?_
   refine zy hF rfl g2_2 (r_load hF rfl rfl fl4 (own_cell (i := 0) (v := .bool m.has) hH rfl rfl)) fun a hF => ?_
   refine zy hF rfl g2_2 (r_not hF rfl rfl) fun a hF => ?_
   refine zy hF rfl g2_2 (r_move hF rfl rfl) fun a hF => ?_
   refine l_ask (d := 19) hF rfl (fun g2_6 => ?_) (fun g2_6 => ?_)
   ·
    have g2_6' := g2_6; try simp only [qq] at g2_6'
    refine zn hF rfl g2_6 fun a hF => ?_
    refine zn hF rfl g2_6 fun a hF => ?_
    refine zn hF rfl g2_6 fun a hF => ?_
    refine zn hF rfl g2_6 fun a hF => ?_
    refine zy hF rfl g2_2 (r_pickf hF rfl rfl g2_6 rfl) fun a hF => ?_
    refine zl hF rfl (r_pickf hF rfl rfl g2_2 rfl) fun a hF => ?_
    refine zm 1 hF rfl fun a hF => ?_
    refine zy hF rfl rfl (r_fieldaddr0 hF rfl rfl fd37_1) fun a hF => ?_
    refine zy hF rfl rfl (r_load hF rfl rfl fl31 (own_cell (i := 0) (v := .slice qad m.qs.length qcp) hH rfl rfl)) fun a hF => ?_
    refine zy hF rfl rfl (r_len_sl hF rfl rfl Tryz.underlying31) fun a hF => ?_
    refine zy hF rfl rfl (zr hF rfl rfl (b_gtn _ _ _ 65535)) fun a hF => ?_
    refine zl hF rfl (r_pickf hF rfl rfl rfl rfl) fun a hF => ?_
    refine zm 1 hF rfl fun a hF => ?_
    refine ls_ask (d := 32) hF rfl (fun g2_19 => ?_) (fun g2_19 => ?_)
    ·
     have g2_19' := g2_19; try simp only [qq] at g2_19'
     refine zn hF rfl g2_19 fun a hF => ?_
     refine zn hF rfl g2_19 fun a hF => ?_
     refine zn hF rfl g2_19 fun a hF => ?_
     refine zl hF rfl (r_pickt hF rfl rfl g2_19 rfl) fun a hF => ?_
     refine c_n ?_
     refine c_yes hF rfl rfl ?_
     refine c_sr fun ops => ?_
     refine zm 1 hF rfl fun a hF => ?_
     refine c_n ?_
     replace hF := hF.sel [2]
     simp only [ss, Nat.reduceBEq] at hF
     refine wp_ret (t1.ret (hret (ret1 hF Tryz.results15 rfl ?_)))
     refine ⟨?_, hH.below⟩
     rw [mayM_eq, hok, hqa]
     clear hqa
     simp_all
     try omega
    have g2_19' := g2_19; try simp only [qq] at g2_19'
    refine zy hF rfl g2_19 (r_fieldaddr0 hF rfl rfl fd37_1) fun a hF => ?_
    refine zy hF rfl g2_19 (r_load hF rfl rfl fl31 (own_cell (i := 0) (v := .slice qad m.qs.length qcp) hH rfl rfl)) fun a hF => ?_
    refine zyc hF rfl g2_19 rfl fn48 (hasq_spec m.qs _ _ (hR.qs.ext hH.below) (by have := hB.qs.1; omega) hB.qs.2) ?_
    rintro _ w ⟨rfl, hE⟩ a hF
    rw [hqa] at hF; replace hH := hH.ext hE
    refine zl hF rfl (r_pickf hF rfl rfl g2_19 rfl) fun a hF => ?_
    refine c_n ?_
    refine c_fi hF rfl (fun h36 => ?_) (fun h36 => ?_)
    ·
     try simp only [qq] at h36
     refine wp_skip ?_
     refine k1 ?_
     refine ⟨?_, hF.keep [1] rfl, hH⟩
     rw [hok, hqa]
     clear hqa
     simp_all
     try omega
    try simp only [qq] at h36
    refine c_sr fun ops => ?_
    refine zm 1 hF rfl fun a hF => ?_
    refine c_n ?_
    replace hF := hF.sel [2]
    simp only [ss, Nat.reduceBEq] at hF
    refine wp_ret (t1.ret (hret (ret1 hF Tryz.results15 rfl ?_)))
    refine ⟨?_, hH.below⟩
    rw [mayM_eq, hok, hqa]
    clear hqa
    simp_all
    try omega
   have g2_6' := g2_6; try simp only [qq] at g2_6'
   refine zy hF rfl g2_6 (r_fieldaddr0 hF rfl rfl fd37_6) fun a hF => ?_
   refine zy hF rfl g2_6 (r_loadagg hF rfl rfl Tryz.underlying35 ti35 rfl (mem_sub (off := 16) (cs := edV m.ed (.slice oad m.ed.opts.length ocp)) hH (List.mem_cons_self ..) (fun j u hu => by rw [List.getElem?_toArray, msgV, List.getElem?_append_right (by show 11 ≤ 16 + j; omega), List.getElem?_append_right (by show 5 ≤ 16 + j - 11; omega)]; rw [show 16 + j - (hdV m.hd).length - [Value.slice qad m.qs.length qcp, av, uv, Value.slice xad m.extra.length xcp, Value.bool m.has].length = j by show 16 + j - 11 - 5 = j; omega]; exact hu))) fun a hF => ?_
   refine zyc hF rfl g2_6 rfl fn47 (bare_spec m.ed _ _ (hR.opts.ext hH.below) (by have := hB.opts.1; omega)) ?_
   rintro _ w ⟨rfl, hE⟩ a hF
   replace hH := hH.ext hE
   refine zy hF rfl g2_6 (r_not hF rfl rfl) fun a hF => ?_
   refine zy hF rfl g2_2 (r_pickt hF rfl rfl g2_6 rfl) fun a hF => ?_
   refine zl hF rfl (r_pickf hF rfl rfl g2_2 rfl) fun a hF => ?_
   refine zm 1 hF rfl fun a hF => ?_
   refine ls_ask (d := 26) hF rfl (fun g2_13 => ?_) (fun g2_13 => ?_)
   ·
    have g2_13' := g2_13; try simp only [qq] at g2_13'
    refine zn hF rfl g2_13 fun a hF => ?_
    refine zn hF rfl g2_13 fun a hF => ?_
    refine zn hF rfl g2_13 fun a hF => ?_
    refine zn hF rfl g2_13 fun a hF => ?_
    refine zl hF rfl (r_pickt hF rfl rfl g2_13 rfl) fun a hF => ?_
    refine zm 1 hF rfl fun a hF => ?_
    refine zn hF rfl rfl fun a hF => ?_
    refine zn hF rfl rfl fun a hF => ?_
    refine zn hF rfl rfl fun a hF => ?_
    refine zl hF rfl (r_pickt hF rfl rfl rfl rfl) fun a hF => ?_
    refine c_n ?_
    refine c_yes hF rfl rfl ?_
    refine c_sr fun ops => ?_
    refine zm 1 hF rfl fun a hF => ?_
    refine c_n ?_
    replace hF := hF.sel [2]
    simp only [ss, Nat.reduceBEq] at hF
    refine wp_ret (t1.ret (hret (ret1 hF Tryz.results15 rfl ?_)))
    refine ⟨?_, hH.below⟩
    rw [mayM_eq, hok, hqa]
    clear hqa
    simp_all
    try omega
   have g2_13' := g2_13; try simp only [qq] at g2_13'
   refine zy hF rfl g2_13 (r_fieldaddr0 hF rfl rfl fd37_1) fun a hF => ?_
   refine zy hF rfl g2_13 (r_load hF rfl rfl fl31 (own_cell (i := 0) (v := .slice qad m.qs.length qcp) hH rfl rfl)) fun a hF => ?_
   refine zy hF rfl g2_13 (r_len_sl hF rfl rfl Tryz.underlying31) fun a hF => ?_
   refine zy hF rfl g2_13 (zr hF rfl rfl (b_gtn _ _ _ 65535)) fun a hF => ?_
   refine zl hF rfl (r_pickf hF rfl rfl g2_13 rfl) fun a hF => ?_
   refine zm 1 hF rfl fun a hF => ?_
   refine ls_ask (d := 32) hF rfl (fun g2_19 => ?_) (fun g2_19 => ?_)
   ·
    have g2_19' := g2_19; try simp only [qq] at g2_19'
    refine zn hF rfl g2_19 fun a hF => ?_
    refine zn hF rfl g2_19 fun a hF => ?_
    refine zn hF rfl g2_19 fun a hF => ?_
    refine zl hF rfl (r_pickt hF rfl rfl g2_19 rfl) fun a hF => ?_
    refine c_n ?_
    refine c_yes hF rfl rfl ?_
    refine c_sr fun ops => ?_
    refine zm 1 hF rfl fun a hF => ?_
    refine c_n ?_
    replace hF := hF.sel [2]
    simp only [ss, Nat.reduceBEq] at hF
    refine wp_ret (t1.ret (hret (ret1 hF Tryz.results15 rfl ?_)))
    refine ⟨?_, hH.below⟩
    rw [mayM_eq, hok, hqa]
    clear hqa
    simp_all
    try omega
   have g2_19' := g2_19; try simp only [qq] at g2_19'
   refine zy hF rfl g2_19 (r_fieldaddr0 hF rfl rfl fd37_1) fun a hF => ?_
   refine zy hF rfl g2_19 (r_load hF rfl rfl fl31 (own_cell (i := 0) (v := .slice qad m.qs.length qcp) hH rfl rfl)) fun a hF => ?_
   refine zyc hF rfl g2_19 rfl fn48 (hasq_spec m.qs _ _ (hR.qs.ext hH.below) (by have := hB.qs.1; omega) hB.qs.2) ?_
   rintro _ w ⟨rfl, hE⟩ a hF
   rw [hqa] at hF; replace hH := hH.ext hE
   refine zl hF rfl (r_pickf hF rfl rfl g2_19 rfl) fun a hF => ?_
   refine c_n ?_
   refine c_fi hF rfl (fun h36 => ?_) (fun h36 => ?_)
   ·
    try simp only [qq] at h36
    refine wp_skip ?_
    refine k1 ?_
    refine ⟨?_, hF.keep [1] rfl, hH⟩
    rw [hok, hqa]
    clear hqa
    simp_all
    try omega
   try simp only [qq] at h36
   refine c_sr fun ops => ?_
   refine zm 1 hF rfl fun a hF => ?_
   refine c_n ?_
   replace hF := hF.sel [2]
   simp only [ss, Nat.reduceBEq] at hF
   refine wp_ret (t1.ret (hret (ret1 hF Tryz.results15 rfl ?_)))
   refine ⟨?_, hH.below⟩
   rw [mayM_eq, hok, hqa]
   clear hqa
   simp_all
   try omega
  rintro a w ⟨hc1, hF, hH⟩
  refine c_seq fun Q2 k2 t2 => ?_
  refine c_sr fun ops => ?_
  refine zc hF rfl rfl fn26 (sections_spec g0_0 _) ?_
  rintro _ w ⟨rfl, hE⟩ a hF
  replace hH := hH.ext hE
  refine zm 1 hF rfl fun a hF => ?_
  refine c_n ?_
  replace hF := hF.sel [1, 37, 38]
  simp only [ss, Nat.reduceBEq] at hF
  refine c_block fun Q3 t3 => ?_
  refine c_loop (fun n a w => ∃ i, n = 4 - i ∧ i ≤ 4 ∧ (∀ k, 1 ≤ k → k < i → recsMay (secL m k) = true) ∧ Fr 64 [(1, ptr g0_0), (37, .agg #[.pointer none, ptrO g0_0 12, ptrO g0_0 13, ptrO g0_0 14]), (38, .int .i64 (i : Nat))] a ∧ Hp w0 w [(g0_0, .cells (msgV m (.slice qad m.qs.length qcp) av uv (.slice xad m.extra.length xcp) (.slice oad m.ed.opts.length ocp)).toArray 37 (0, 0))]) ?_ ?_
  ·
   exact ⟨_, 0, rfl, Nat.zero_le _, fun k _ h => absurd h (Nat.not_lt_zero _), hF.keep [1, 37, 38] rfl, hH⟩
  clear hH hF
  intro n a w hI Q4 k4 t4
  obtain ⟨i, hm, hi, hk, hF, hH⟩ := hI
  refine c_sr fun ops => ?_
  refine zb hF rfl rfl rfl (b_ltn _ _ _ 4) fun a hF => ?_
  refine c_n ?_
  refine c_seq fun Q5 k5 t5 => ?_
  refine c_fi hF rfl (fun h39 => ?_) (fun h39 => ?_)
  ·
   try simp only [qq] at h39
   refine wp_exit (t5.exit (t4.exit (t3.here (?_))))
   refine k2 ?_
   obtain rfl : i = 4 := by omega
   have hs1 := hk 1 (by omega) (by omega)
   have hs2 := hk 2 (by omega) (by omega)
   have hs3 := hk 3 (by omega) (by omega)
   have hM : mayM m = (!m.has || decide (m.extra.length < 65535)) := by rw [mayM_eq, hs1, hs2, hs3]; simp [hc1]
   refine c_sg ?_
   refine zl hF rfl (r_fieldaddr0 hF rfl rfl fd37_5) fun a hF => ?_
   refine zl hF rfl (r_load hF rfl rfl fl4 (own_cell (i := 0) (v := .bool m.has) hH rfl rfl)) fun a hF => ?_
   refine zl hF rfl (r_not hF rfl rfl) fun a hF => ?_
   refine zm 1 hF rfl fun a hF => ?_
   refine ls_ask (d := 58) hF rfl (fun g11_3 => ?_) (fun g11_3 => ?_)
   ·
    have g11_3' := g11_3; try simp only [qq] at g11_3'
    refine zn hF rfl g11_3 fun a hF => ?_
    refine zn hF rfl g11_3 fun a hF => ?_
    refine zn hF rfl g11_3 fun a hF => ?_
    refine zn hF rfl g11_3 fun a hF => ?_
    refine zl hF rfl (r_pickt hF rfl rfl g11_3 rfl) fun a hF => ?_
    refine zm 1 hF rfl fun a hF => ?_
    refine c_n ?_
    replace hF := hF.sel [2]
    simp only [ss, Nat.reduceBEq] at hF
    refine wp_ret (hret (ret1 hF Tryz.results15 rfl ?_))
    exact ⟨by rw [hM]; simp_all, hH.below⟩
   have g11_3' := g11_3; try simp only [qq] at g11_3'
   refine zy hF rfl g11_3 (r_fieldaddr0 hF rfl rfl fd37_4) fun a hF => ?_
   refine zy hF rfl g11_3 (r_load hF rfl rfl fl32 (own_cell (i := 0) (v := .slice xad m.extra.length xcp) hH rfl rfl)) fun a hF => ?_
   refine zy hF rfl g11_3 (r_len_sl hF rfl rfl Tryz.underlying32) fun a hF => ?_
   refine zy hF rfl g11_3 (zr hF rfl rfl (b_ltn _ _ _ 65535)) fun a hF => ?_
   refine zl hF rfl (r_pickf hF rfl rfl g11_3 rfl) fun a hF => ?_
   refine zm 1 hF rfl fun a hF => ?_
   refine c_n ?_
   replace hF := hF.sel [2]
   simp only [ss, Nat.reduceBEq] at hF
   refine wp_ret (hret (ret1 hF Tryz.results15 rfl ?_))
   exact ⟨by rw [hM]; simp_all, hH.below⟩
  try simp only [qq] at h39
  refine wp_skip ?_
  refine k5 ?_
  refine c_seq fun Q6 k6 t6 => ?_
  refine c_block fun Q7 t7 => ?_
  refine c_sr fun ops => ?_
  refine zl hF rfl (r_indexarr hF _ rfl rfl rfl Tryz.underlying72 ti71 (by unfold flat; rw [Tryz.underlying71]) (by omega) (secP_at h39)) fun a hF => ?_
  refine zm 1 hF rfl fun a hF => ?_
  refine c_n ?_
  refine c_seq fun Q8 k8 t8 => ?_
  refine c_sr fun ops => ?_
  refine zm 1 hF rfl fun a hF => ?_
  refine zb hF rfl rfl rfl (b_peq Tryz.underlying71) fun a hF => ?_
  refine c_n ?_
  refine c_if hF rfl (fun h42 => ?_) (fun h42 => ?_)
  ·
   try simp only [qq] at h42
   refine wp_exit (t8.exit (t7.here (?_)))
   refine k6 ?_
   refine c_reg fun ops => ?_
   refine zb hF rfl rfl rfl (b_addn _ _ 1 (by omega)) fun a hF => ?_
   refine zm 1 hF rfl fun a hF => ?_
   refine wpList_nil ?_
   refine k4 ?_
   refine ⟨4 - (i + 1), by omega, i + 1, rfl, by omega, fun k hk1 hk2 => ?_, hF.keep [1, 37, 38] rfl, hH⟩
   by_cases hki : k < i
   · exact hk k hk1 hki
   · obtain rfl : k = i := by omega
     first
       | (rw [hrm]; clear hrm hra hk; simp_all; done)
       | (rw [hrm]; clear hrm hra hk; simp_all; omega)
       | (exfalso; cases k with
          | zero => omega
          | succ k => simp at h42)
  try simp only [qq] at h42
  have hi1 : 1 ≤ i := by
    cases i with
    | zero => simp at h42
    | succ i => omega
  obtain ⟨ad, cp, hcell, hsl, hsn, hsb⟩ := sec_at hR hB hi1 h39
  rw [show secP g0_0 i = ptrO g0_0 (11 + i) by unfold secP; rw [if_neg (by omega)]] at hF
  obtain ⟨ra, hra⟩ : ∃ b, (secL m i).any rnay = b := ⟨_, rfl⟩
  have hrm := recsMay_any (secL m i)
  rw [hra] at hrm
  refine wp_skip ?_
  refine k8 ?_
  refine c_sg ?_
  refine zm 1 hF rfl fun a hF => ?_
  refine zl hF rfl (r_nilcheck hF rfl rfl) fun a hF => ?_
  refine zl hF rfl (r_load hF rfl rfl fl32 (own_cell (i := 0) hH rfl (by simpa using hcell))) fun a hF => ?_
  refine zl hF rfl (r_len_sl hF rfl rfl Tryz.underlying32) fun a hF => ?_
  refine zb hF rfl rfl rfl (b_gtn _ _ _ 65535) fun a hF => ?_
  refine zm 1 hF rfl fun a hF => ?_
  refine ls_ask (d := 48) hF rfl (fun g8_5 => ?_) (fun g8_5 => ?_)
  ·
   have g8_5' := g8_5; try simp only [qq] at g8_5'
   refine zn hF rfl g8_5 fun a hF => ?_
   refine zn hF rfl g8_5 fun a hF => ?_
   refine zn hF rfl g8_5 fun a hF => ?_
   refine zn hF rfl g8_5 fun a hF => ?_
   refine zl hF rfl (r_pickt hF rfl rfl g8_5 rfl) fun a hF => ?_
   refine c_n ?_
   refine c_yes hF rfl rfl ?_
   refine c_sr fun ops => ?_
   refine zm 1 hF rfl fun a hF => ?_
   refine c_n ?_
   refine wp_ret (t7.ret (t6.ret (t4.ret (t3.ret (t2.ret (hret (ret1 hF Tryz.results15 rfl ?_)))))))
   refine ⟨?_, hH.below⟩
   have hno : recsMay (secL m i) = false := by
     rw [hrm]; clear hrm hra
     first
       | (rw [decide_eq_false (by omega)]; rfl)
       | (simp_all; done)
   rw [mayM_eq]
   rcases (show i = 1 ∨ i = 2 ∨ i = 3 by omega) with rfl | rfl | rfl <;> rw [hno] <;> simp
  have g8_5' := g8_5; try simp only [qq] at g8_5'
  refine zy hF rfl g8_5 (r_move hF rfl rfl) fun a hF => ?_
  refine zy hF rfl g8_5 (r_nilcheck hF rfl rfl) fun a hF => ?_
  refine zy hF rfl g8_5 (r_load hF rfl rfl fl32 (own_cell (i := 0) hH rfl (by simpa using hcell))) fun a hF => ?_
  refine zyc hF rfl g8_5 rfl fn51 (hasr_spec (secL m i) _ _ (hG.ext hH.below) (hsl.ext hH.below) (by omega) hsb) ?_
  rintro _ w ⟨rfl, hE⟩ a hF
  rw [hra] at hF; replace hH := hH.ext hE
  refine zl hF rfl (r_pickf hF rfl rfl g8_5 rfl) fun a hF => ?_
  refine c_n ?_
  refine c_if hF rfl (fun h53 => ?_) (fun h53 => ?_)
  ·
   try simp only [qq] at h53
   refine c_sr fun ops => ?_
   refine zm 1 hF rfl fun a hF => ?_
   refine c_n ?_
   refine wp_ret (t7.ret (t6.ret (t4.ret (t3.ret (t2.ret (hret (ret1 hF Tryz.results15 rfl ?_)))))))
   refine ⟨?_, hH.below⟩
   have hno : recsMay (secL m i) = false := by
     rw [hrm]; clear hrm hra
     first
       | (rw [decide_eq_false (by omega)]; rfl)
       | (simp_all; done)
   rw [mayM_eq]
   rcases (show i = 1 ∨ i = 2 ∨ i = 3 by omega) with rfl | rfl | rfl <;> rw [hno] <;> simp
  try simp only [qq] at h53
  refine wp_skip ?_
  refine t7.norm ?_
  refine k6 ?_
  refine c_reg fun ops => ?_
  refine zb hF rfl rfl rfl (b_addn _ _ 1 (by omega)) fun a hF => ?_
  refine zm 1 hF rfl fun a hF => ?_
  refine wpList_nil ?_
  refine k4 ?_
  refine ⟨4 - (i + 1), by omega, i + 1, rfl, by omega, fun k hk1 hk2 => ?_, hF.keep [1, 37, 38] rfl, hH⟩
  by_cases hki : k < i
  · exact hk k hk1 hki
  · obtain rfl : k = i := by omega
    first
      | (rw [hrm]; clear hrm hra hk; simp_all; done)
      | (rw [hrm]; clear hrm hra hk; simp_all; omega)
      | (exfalso; cases k with
         | zero => omega
         | succ k => simp at h42)
end Go.Proofs.YtpoebplhemimmaaGreatDoor
