/-
  The walks of a cursor's numbers, of wire.got, and of wire's reader's name and two. Nothing is claimed here.
  The walks of edns.Read, rdata.Read, head.From and head.Read. Nothing is claimed here.
  The walks of rdata.Read, head.From and head.Read. Nothing is claimed here.
  The walks of head.From and head.Read. Nothing is claimed here.
-/
import Derived.Test.YtpoebplhemimmaaGreatDoorEncode
import Derived.Test.YtpoebplhemimmaaGreatDoorCur
namespace Go.Proofs.YtpoebplhemimmaaGreatDoor
open Go.RowKit
set_option linter.unusedVariables false
set_option linter.unusedSimpArgs false
set_option maxHeartbeats 1000000

def bigN (d : Bs) : Nat := d.foldl (fun n b => n * 256 + b.toNat) 0
theorem bigN_snoc (d : Bs) (c : UInt8) : bigN (d ++ [c]) = bigN d * 256 + c.toNat := by simp [bigN]
theorem bigN_lt : ∀ (d : Bs) (k : Nat), d.length ≤ k → bigN d < 256 ^ k := by
  have h : ∀ (d : Bs) (n j : Nat), n < 256 ^ j → d.foldl (fun n b => n * 256 + b.toNat) n < 256 ^ (j + d.length) := by
    intro d
    induction d with
    | nil => intro n j h; simpa using h
    | cons c d ih =>
      intro n j h
      rw [List.foldl_cons, List.length_cons, show j + (d.length + 1) = (j + 1) + d.length by omega]
      refine ih _ _ ?_
      have := c.toNat_lt
      rw [Nat.pow_succ]; omega
  intro d k hk
  have := h d 0 0 (by decide)
  rw [Nat.zero_add] at this
  exact Nat.lt_of_lt_of_le this (Nat.pow_le_pow_right (by decide) hk)
theorem bigN_next {d : Bs} {i : Nat} (h : i < d.length) : bigN (d.take (i + 1)) = bigN (d.take i) * 256 + (d.getD i 0).toNat := by
  rw [List.take_succ_eq_append_getElem h, bigN_snoc]
  simp [List.getD_eq_getElem?_getD, h]
theorem take_two {s : Bs} {p : Nat} (h : p + 2 ≤ s.length) : (s.drop p).take 2 = [s.getD p 0, s.getD (p + 1) 0] := by
  have e0 : s.getD p 0 = s[p]'(by omega) := by simp [List.getD_eq_getElem?_getD, show p < s.length by omega]
  have e1 : s.getD (p + 1) 0 = s[p + 1]'(by omega) := by simp [List.getD_eq_getElem?_getD, show p + 1 < s.length by omega]
  rw [e0, e1, List.drop_eq_getElem_cons (show p < s.length by omega), List.drop_eq_getElem_cons (show p + 1 < s.length by omega)]
  rfl
theorem bigN_two {s : Bs} {p : Nat} (h : p + 2 ≤ s.length) : bigN ((s.drop p).take 2) = num2 s p := by
  rw [take_two h]; simp [bigN, num2]
theorem bigN_four {s : Bs} {p : Nat} (h : p + 4 ≤ s.length) : bigN ((s.drop p).take 4) = num4 s p := by
  have h1 : (s.drop p).take 4 = (s.drop p).take 2 ++ (s.drop (p + 2)).take 2 := by
    rw [← List.drop_drop, ← List.take_add]
  rw [h1, take_two (by omega), take_two (by omega)]
  simp [bigN, num4, num2]; omega
theorem num2_lt (s : Bs) (p : Nat) : num2 s p < 65536 := by
  have h1 := (s.getD p 0).toNat_lt
  have h2 := (s.getD (p + 1) 0).toNat_lt
  unfold num2; omega
theorem num4_lt (s : Bs) (p : Nat) : num4 s p < 4294967296 := by
  have h1 := num2_lt s p
  have h2 := num2_lt s (p + 2)
  unfold num4; omega
section
variable {w0 w : World} {H : List (Nat × Obj)} {g p : Nat} {s : Bs}
theorem number_cspec (k : Nat) (hk : k ≤ 4) (hG : GW w0) (hH : Hp w0 w ((g, curO s p) :: H)) (hp : p ≤ s.length) (hs : s.length < 1000000) : Rets Tryz.prog 77 [ptr g, .int .i64 (k : Nat)] w
    fun v w' => v = .tuple #[.int .u32 ((if s.length < p + k then 0 else bigN ((s.drop p).take k) : Nat) : Int), .int .i64 ((if s.length < p + k then 4 else 0 : Nat) : Int)] ∧ Hp w0 w' ((g, curO s (if s.length < p + k then p else p + k)) :: H) := by
  by_cases hc : s.length < p + k
  · simp only [hc, if_true]
    have hcall := next_spec (g := g) k hG hH hp hs
    simp only [hc, if_true] at hcall
    refine rets_start Tryz.func77 rfl Tryz.ntmps77 rfl fun a Q0 hF hret hend => ?_
    simp only [argsFrom, Nat.zero_add, Nat.reduceAdd] at hF
    refine c_sr fun ops => ?_
    refine zm 2 hF rfl fun a hF => ?_
    refine c_n ?_
    replace hF := hF.sel [0, 1]
    simp only [ss, Nat.reduceBEq] at hF
    refine c_sr fun ops => ?_
    refine zm 2 hF rfl fun a hF => ?_
    refine zc hF rfl rfl fn79 (hcall) ?_
    rintro _ w ⟨rfl, hH⟩ a hF
    refine zm 5 hF rfl fun a hF => ?_
    refine c_n ?_
    replace hF := hF.sel [6, 7]
    simp only [ss, Nat.reduceBEq] at hF
    refine c_sr fun ops => ?_
    refine zm 1 hF rfl fun a hF => ?_
    refine c_n ?_
    replace hF := hF.sel [6, 7, 8]
    simp only [ss, Nat.reduceBEq] at hF
    refine c_seq fun Q1 k1 t1 => ?_
    refine c_sr fun ops => ?_
    refine zm 1 hF rfl fun a hF => ?_
    refine zl hF rfl (r_len_str hF rfl rfl Tryz.underlying9) fun a hF => ?_
    refine zm 1 hF rfl fun a hF => ?_
    refine c_n ?_
    replace hF := hF.sel [6, 7, 8, 17, 18]
    simp only [ss, Nat.reduceBEq] at hF
    refine c_block fun Q2 t2 => ?_
    refine c_loop (fun n a w => n = 0 ∧ Fr 32 [(7, errV 4), (8, .int .u32 0), (17, .int .i64 0), (18, .int .i64 0)] a ∧ Hp w0 w ((g, curO s p) :: H)) ?_ ?_
    ·
     exact ⟨0, rfl, hF.keep [7, 8, 17, 18] rfl, hH⟩
    intro n a w hI Q3 k3 t3
    obtain ⟨_, hF, hH⟩ := hI
    refine c_sr fun ops => ?_
    refine zb hF rfl rfl rfl (b_lt _ _ _ _) fun a hF => ?_
    refine c_n ?_
    refine c_seq fun Q4 k4 t4 => ?_
    refine c_no hF rfl ((by decide)) ?_
    refine wp_exit (t4.exit (t3.exit (t2.here (?_))))
    refine k1 ?_
    refine c_sr fun ops => ?_
    refine zm 2 hF rfl fun a hF => ?_
    refine zc hF rfl rfl fn80 (told_spec _ _ (hG.ext hH.below)) ?_
    rintro _ w ⟨rfl, hE⟩ a hF
    replace hH := hH.ext hE
    refine zm 2 hF rfl fun a hF => ?_
    refine c_n ?_
    replace hF := hF.sel [4, 5]
    simp only [ss, Nat.reduceBEq] at hF
    refine wp_ret (hret (ret2 hF Tryz.results77 rfl rfl ?_))
    exact ⟨rfl, hH⟩
  · simp only [hc, if_false]
    have hcall := next_spec (g := g) k hG hH hp hs
    simp only [hc, if_false] at hcall
    obtain ⟨d, hd⟩ : ∃ d, (s.drop p).take k = d := ⟨_, rfl⟩
    have hdl : d.length = k := by rw [← hd, List.length_take, List.length_drop]; omega
    rw [hd] at hcall ⊢
    refine rets_start Tryz.func77 rfl Tryz.ntmps77 rfl fun a Q0 hF hret hend => ?_
    simp only [argsFrom, Nat.zero_add, Nat.reduceAdd] at hF
    refine c_sr fun ops => ?_
    refine zm 2 hF rfl fun a hF => ?_
    refine c_n ?_
    replace hF := hF.sel [0, 1]
    simp only [ss, Nat.reduceBEq] at hF
    refine c_sr fun ops => ?_
    refine zm 2 hF rfl fun a hF => ?_
    refine zc hF rfl rfl fn79 (hcall) ?_
    rintro _ w ⟨rfl, hH⟩ a hF
    refine zm 5 hF rfl fun a hF => ?_
    refine c_n ?_
    replace hF := hF.sel [6, 7]
    simp only [ss, Nat.reduceBEq] at hF
    refine c_sr fun ops => ?_
    refine zm 1 hF rfl fun a hF => ?_
    refine c_n ?_
    replace hF := hF.sel [6, 7, 8]
    simp only [ss, Nat.reduceBEq] at hF
    refine c_seq fun Q1 k1 t1 => ?_
    refine c_sr fun ops => ?_
    refine zm 1 hF rfl fun a hF => ?_
    refine zl hF rfl (r_len_str hF rfl rfl Tryz.underlying9) fun a hF => ?_
    refine zm 1 hF rfl fun a hF => ?_
    refine c_n ?_
    replace hF := hF.sel [6, 7, 8, 17, 18]
    simp only [ss, Nat.reduceBEq] at hF
    refine c_block fun Q2 t2 => ?_
    refine c_loop (fun n a w => ∃ i, n = k - i ∧ i ≤ k ∧ Fr 32 [(6, .string (mk d)), (7, errV 0), (8, .int .u32 (bigN (d.take i) : Nat)), (17, .int .i64 (d.length : Nat)), (18, .int .i64 (i : Nat))] a ∧ Hp w0 w ((g, curO s (p + k)) :: H)) ?_ ?_
    ·
     exact ⟨k, 0, rfl, Nat.zero_le _, hF.keep [6, 7, 8, 17, 18] rfl, hH⟩
    clear hH hF
    intro n a w hI Q3 k3 t3
    obtain ⟨i, hn, hi, hF, hH⟩ := hI
    refine c_sr fun ops => ?_
    refine zb hF rfl rfl rfl (b_ltn _ _ _ _) fun a hF => ?_
    refine c_n ?_
    refine c_seq fun Q4 k4 t4 => ?_
    refine c_fi hF rfl (fun h19 => ?_) (fun h19 => ?_)
    ·
     try simp only [qq] at h19
     rw [List.take_of_length_le (by omega)] at hF
     refine wp_exit (t4.exit (t3.exit (t2.here (?_))))
     refine k1 ?_
     refine c_sr fun ops => ?_
     refine zm 2 hF rfl fun a hF => ?_
     refine zc hF rfl rfl fn80 (told_spec _ _ (hG.ext hH.below)) ?_
     rintro _ w ⟨rfl, hE⟩ a hF
     replace hH := hH.ext hE
     refine zm 2 hF rfl fun a hF => ?_
     refine c_n ?_
     replace hF := hF.sel [4, 5]
     simp only [ss, Nat.reduceBEq] at hF
     refine wp_ret (hret (ret2 hF Tryz.results77 rfl rfl ?_))
     exact ⟨rfl, hH⟩
    try simp only [qq] at h19
    have hc8 := (d.getD i 0).toNat_lt
    have hsm : bigN (d.take i) < 16777216 := Nat.lt_of_lt_of_le (bigN_lt _ 3 (by rw [List.length_take]; omega)) (by decide)
    refine wp_skip ?_
    refine k4 ?_
    refine c_seq fun Q5 k5 t5 => ?_
    refine c_block fun Q6 t6 => ?_
    refine c_sr fun ops => ?_
    refine zm 2 hF rfl fun a hF => ?_
    refine c_n ?_
    refine c_reg fun ops => ?_
    refine zm 1 hF rfl fun a hF => ?_
    refine zb hF rfl rfl rfl (b_shl8u _ _ hsm) fun a hF => ?_
    refine zm 2 hF rfl fun a hF => ?_
    refine zl hF rfl (r_indexn hF _ rfl rfl rfl Tryz.underlying9 (by omega)) fun a hF => ?_
    refine zl hF rfl (r_convin hF rfl rfl (by rw [Tryz.underlying5]; rfl) Tryz.underlying54 (0) 4294967295 mn_u32 mx_u32 (by omega)) fun a hF => ?_
    refine zb hF rfl rfl rfl (b_orju _ _ _ hsm hc8) fun a hF => ?_
    refine zm 1 hF rfl fun a hF => ?_
    refine wpList_nil ?_
    refine t6.norm ?_
    refine k5 ?_
    refine c_reg fun ops => ?_
    refine zb hF rfl rfl rfl (b_addn _ _ 1 (by omega)) fun a hF => ?_
    refine zm 1 hF rfl fun a hF => ?_
    refine wpList_nil ?_
    refine k3 ?_
    exact ⟨k - (i + 1), by omega, i + 1, rfl, by omega, by rw [bigN_next (by omega)]; exact hF.keep [6, 7, 8, 17, 18] rfl, hH⟩
theorem two_cspec (hG : GW w0) (hH : Hp w0 w ((g, curO s p) :: H)) (hp : p ≤ s.length) (hs : s.length < 1000000) : Rets Tryz.prog 54 [ptr g] w
    fun v w' => v = .tuple #[.int .u16 ((if s.length < p + 2 then 0 else num2 s p : Nat) : Int), .int .i64 ((if s.length < p + 2 then 4 else 0 : Nat) : Int)] ∧ Hp w0 w' ((g, curO s (if s.length < p + 2 then p else p + 2)) :: H) := by
  have hcall := number_cspec (g := g) 2 (by omega) hG hH hp hs
  have he : (if s.length < p + 2 then 0 else bigN ((s.drop p).take 2) : Nat) = (if s.length < p + 2 then 0 else num2 s p) := by
    split
    · rfl
    · exact bigN_two (by omega)
  rw [he] at hcall
  have hlt : (if s.length < p + 2 then 0 else num2 s p) < 65536 := by
    split
    · omega
    · exact num2_lt _ _
  generalize (if s.length < p + 2 then 0 else num2 s p) = x at *
  refine rets_start Tryz.func54 rfl Tryz.ntmps54 rfl fun a Q0 hF hret hend => ?_
  simp only [argsFrom, Nat.zero_add, Nat.reduceAdd] at hF
  refine c_sr fun ops => ?_
  refine zm 2 hF rfl fun a hF => ?_
  refine c_n ?_
  replace hF := hF.sel [0]
  simp only [ss, Nat.reduceBEq] at hF
  refine c_sr fun ops => ?_
  refine zm 1 hF rfl fun a hF => ?_
  refine zc hF rfl rfl fn77 (hcall) ?_
  rintro _ w ⟨rfl, hH⟩ a hF
  refine zm 5 hF rfl fun a hF => ?_
  refine c_n ?_
  replace hF := hF.sel [4, 5]
  simp only [ss, Nat.reduceBEq] at hF
  refine c_sr fun ops => ?_
  refine zm 1 hF rfl fun a hF => ?_
  refine zl hF rfl (r_convin hF rfl rfl (by rw [Tryz.underlying54]; rfl) Tryz.underlying28 (0) 65535 mn_u16 mx_u16 (by omega)) fun a hF => ?_
  refine zm 3 hF rfl fun a hF => ?_
  refine c_n ?_
  replace hF := hF.sel [2, 3]
  simp only [ss, Nat.reduceBEq] at hF
  refine wp_ret (hret (ret2 hF Tryz.results54 rfl rfl ?_))
  exact ⟨rfl, hH⟩
theorem four_cspec (hG : GW w0) (hH : Hp w0 w ((g, curO s p) :: H)) (hp : p ≤ s.length) (hs : s.length < 1000000) : Rets Tryz.prog 60 [ptr g] w
    fun v w' => v = .tuple #[.int .u32 ((if s.length < p + 4 then 0 else num4 s p : Nat) : Int), .int .i64 ((if s.length < p + 4 then 4 else 0 : Nat) : Int)] ∧ Hp w0 w' ((g, curO s (if s.length < p + 4 then p else p + 4)) :: H) := by
  have hcall := number_cspec (g := g) 4 (by omega) hG hH hp hs
  have he : (if s.length < p + 4 then 0 else bigN ((s.drop p).take 4) : Nat) = (if s.length < p + 4 then 0 else num4 s p) := by
    split
    · rfl
    · exact bigN_four (by omega)
  rw [he] at hcall
  refine rets_start Tryz.func60 rfl Tryz.ntmps60 rfl fun a Q0 hF hret hend => ?_
  simp only [argsFrom, Nat.zero_add, Nat.reduceAdd] at hF
  refine c_sr fun ops => ?_
  refine zm 2 hF rfl fun a hF => ?_
  refine c_n ?_
  replace hF := hF.sel [0]
  simp only [ss, Nat.reduceBEq] at hF
  refine c_sr fun ops => ?_
  refine zm 1 hF rfl fun a hF => ?_
  refine zc hF rfl rfl fn77 (hcall) ?_
  rintro _ w ⟨rfl, hH⟩ a hF
  refine zm 4 hF rfl fun a hF => ?_
  refine c_n ?_
  replace hF := hF.sel [2, 3]
  simp only [ss, Nat.reduceBEq] at hF
  refine wp_ret (hret (ret2 hF Tryz.results60 rfl rfl ?_))
  exact ⟨rfl, hH⟩
end
theorem got16_spec (v : Value) (e : Nat) (w0 : World) : RetsT Tryz.prog 58 [v, .int .i64 e] w0 (fun u w' => u = v ∧ e = 0 ∧ Ext w0 w') fun n w' => n = e ∧ e ≠ 0 ∧ Ext w0 w' := by
  have hH := Hp.refl w0
  refine rets_startT Tryz.func58 rfl Tryz.ntmps58 rfl fun a Q0 hF hret hend hpan => ?_
  simp only [argsFrom, Nat.zero_add, Nat.reduceAdd] at hF
  refine c_sr fun ops => ?_
  refine zm 1 hF rfl fun a hF => ?_
  refine c_n ?_
  replace hF := hF.sel [0, 1]
  simp only [ss, Nat.reduceBEq] at hF
  refine c_sr fun ops => ?_
  refine zm 1 hF rfl fun a hF => ?_
  refine ls_callT hF rfl rfl rfl rfl rfl fn21 (must_spec e _) (fun n w hE => hpan hF (⟨hE.1, hE.2.1, hH.below.trans hE.2.2⟩)) ?_
  rintro _ w ⟨rfl, he, hE⟩ a hF
  replace hH := hH.ext hE
  refine c_n ?_
  replace hF := hF.sel [0]
  simp only [ss, Nat.reduceBEq] at hF
  refine c_sr fun ops => ?_
  refine zm 2 hF rfl fun a hF => ?_
  refine c_n ?_
  replace hF := hF.sel [4]
  simp only [ss, Nat.reduceBEq] at hF
  refine wp_ret (hret (ret1 hF Tryz.results58 rfl ?_))
  exact ⟨rfl, he, hH.below⟩
theorem got32_spec (v : Value) (e : Nat) (w0 : World) : RetsT Tryz.prog 59 [v, .int .i64 e] w0 (fun u w' => u = v ∧ e = 0 ∧ Ext w0 w') fun n w' => n = e ∧ e ≠ 0 ∧ Ext w0 w' := by
  have hH := Hp.refl w0
  refine rets_startT Tryz.func59 rfl Tryz.ntmps59 rfl fun a Q0 hF hret hend hpan => ?_
  simp only [argsFrom, Nat.zero_add, Nat.reduceAdd] at hF
  refine c_sr fun ops => ?_
  refine zm 1 hF rfl fun a hF => ?_
  refine c_n ?_
  replace hF := hF.sel [0, 1]
  simp only [ss, Nat.reduceBEq] at hF
  refine c_sr fun ops => ?_
  refine zm 1 hF rfl fun a hF => ?_
  refine ls_callT hF rfl rfl rfl rfl rfl fn21 (must_spec e _) (fun n w hE => hpan hF (⟨hE.1, hE.2.1, hH.below.trans hE.2.2⟩)) ?_
  rintro _ w ⟨rfl, he, hE⟩ a hF
  replace hH := hH.ext hE
  refine c_n ?_
  replace hF := hF.sel [0]
  simp only [ss, Nat.reduceBEq] at hF
  refine c_sr fun ops => ?_
  refine zm 2 hF rfl fun a hF => ?_
  refine c_n ?_
  replace hF := hF.sel [4]
  simp only [ss, Nat.reduceBEq] at hF
  refine wp_ret (hret (ret1 hF Tryz.results59 rfl ?_))
  exact ⟨rfl, he, hH.below⟩
theorem goti_spec (v : Value) (e : Nat) (w0 : World) : RetsT Tryz.prog 30 [v, .int .i64 e] w0 (fun u w' => u = v ∧ e = 0 ∧ Ext w0 w') fun n w' => n = e ∧ e ≠ 0 ∧ Ext w0 w' := by
  have hH := Hp.refl w0
  refine rets_startT Tryz.func30 rfl Tryz.ntmps30 rfl fun a Q0 hF hret hend hpan => ?_
  simp only [argsFrom, Nat.zero_add, Nat.reduceAdd] at hF
  refine c_sr fun ops => ?_
  refine zm 1 hF rfl fun a hF => ?_
  refine c_n ?_
  replace hF := hF.sel [0, 1]
  simp only [ss, Nat.reduceBEq] at hF
  refine c_sr fun ops => ?_
  refine zm 1 hF rfl fun a hF => ?_
  refine ls_callT hF rfl rfl rfl rfl rfl fn21 (must_spec e _) (fun n w hE => hpan hF (⟨hE.1, hE.2.1, hH.below.trans hE.2.2⟩)) ?_
  rintro _ w ⟨rfl, he, hE⟩ a hF
  replace hH := hH.ext hE
  refine c_n ?_
  replace hF := hF.sel [0]
  simp only [ss, Nat.reduceBEq] at hF
  refine c_sr fun ops => ?_
  refine zm 2 hF rfl fun a hF => ?_
  refine c_n ?_
  replace hF := hF.sel [4]
  simp only [ss, Nat.reduceBEq] at hF
  refine wp_ret (hret (ret1 hF Tryz.results30 rfl ?_))
  exact ⟨rfl, he, hH.below⟩
abbrev rdO (s : Bs) (gc : Nat) : Obj := .cells #[.string (mk s), ptr gc] 67 (0, 0)
section
variable {w0 w1 : World} {H : List (Nat × Obj)} {gr gc p : Nat} {s : Bs}
theorem rtwo_spec (hG : GX w0) (hH : Hp w0 w1 ((gc, curO s p) :: (gr, rdO s gc) :: H)) (hp : p ≤ s.length) (hs : s.length < 1000000) : RetsT Tryz.prog 25 [ptr gr] w1
    (fun v w' => v = .int .u16 (num2 s p : Nat) ∧ p + 2 ≤ s.length ∧ Hp w0 w' ((gc, curO s (p + 2)) :: (gr, rdO s gc) :: H)) fun n w' => n = 4 ∧ s.length < p + 2 ∧ Hp w0 w' H := by
  refine rets_startT Tryz.func25 rfl Tryz.ntmps25 rfl fun a Q0 hF hret hend hpan => ?_
  simp only [argsFrom, Nat.zero_add, Nat.reduceAdd] at hF
  refine c_sr fun ops => ?_
  refine zm 1 hF rfl fun a hF => ?_
  refine c_n ?_
  replace hF := hF.sel [0]
  simp only [ss, Nat.reduceBEq] at hF
  refine c_sr fun ops => ?_
  refine zm 1 hF rfl fun a hF => ?_
  refine zl hF rfl (r_nilcheck hF rfl rfl) fun a hF => ?_
  refine zl hF rfl (r_fieldaddr0 hF rfl rfl fd67_1) fun a hF => ?_
  refine zl hF rfl (r_load hF rfl rfl fl64 (own_cell (i := 1) (v := ptr gc) hH rfl rfl)) fun a hF => ?_
  refine zc hF rfl rfl fn54 (two_cspec hG.errs hH hp hs) ?_
  rintro _ w ⟨rfl, hH⟩ a hF
  skip
  refine zm 2 hF rfl fun a hF => ?_
  refine ls_callT hF rfl rfl rfl rfl rfl fn58 (got16_spec _ _ _) (fun n w hE => hpan hF (by
    obtain ⟨h1, h2, h3⟩ := hE
    by_cases hc : s.length < p + 2
    · rw [if_pos hc] at h1; exact ⟨h1, hc, ((hH.ext h3).drop).drop⟩
    · rw [if_neg hc] at h2; exact absurd rfl h2)) ?_
  rintro _ w ⟨rfl, he, hE⟩ a hF
  replace hH := hH.ext hE
  refine zm 1 hF rfl fun a hF => ?_
  refine c_n ?_
  replace hF := hF.sel [2]
  simp only [ss, Nat.reduceBEq] at hF
  refine wp_ret (hret (ret1 hF Tryz.results25 rfl ?_))
  have hc : ¬ s.length < p + 2 := fun hc => by rw [if_pos hc] at he; cases he
  rw [if_neg hc] at hH
  exact ⟨by rw [if_neg hc], by omega, hH⟩
theorem rname_spec (hG : GX w0) (hH : Hp w0 w1 ((gc, curO s p) :: (gr, rdO s gc) :: H)) (hp : p ≤ s.length) (hs : s.length < 1000000) : RetsT Tryz.prog 24 [ptr gr] w1
    (fun v w' => v = .string (mk (readAt s p).2.1) ∧ (readAt s p).1 = 0 ∧ Hp w0 w' ((gc, curO s (readAt s p).2.2) :: (gr, rdO s gc) :: H)) fun n w' => n = (readAt s p).1 ∧ (readAt s p).1 ≠ 0 ∧ Hp w0 w' H := by
  refine rets_startT Tryz.func24 rfl Tryz.ntmps24 rfl fun a Q0 hF hret hend hpan => ?_
  simp only [argsFrom, Nat.zero_add, Nat.reduceAdd] at hF
  refine c_sr fun ops => ?_
  refine zm 1 hF rfl fun a hF => ?_
  refine c_n ?_
  replace hF := hF.sel [0]
  simp only [ss, Nat.reduceBEq] at hF
  refine c_seq fun Q1 k1 t1 => ?_
  refine c_planF hF [] [0, 1, 2, 4, 5, 6] [.p 3, .p 7, .o 8] [.o 9, .p 10, .p 11, .p 12, .p 13] [14, 15, 16] [0, 1, 2, 4, 5, 6, 3, 7, 8] (hH.S) (by kernel_rfl) (by kernel_rfl) rfl ?_
  refine ps hF rfl rfl rfl rfl (fun w => r_move hF rfl rfl) fun a hF => ?_
  refine ps_nil hF rfl rfl rfl rfl rfl fun a hF => ?_
  refine ps hF rfl rfl rfl rfl (fun w => r_fieldaddr0 hF rfl rfl fd67_0) fun a hF => ?_
  refine ps hF rfl rfl rfl rfl (fun w => r_move hF rfl rfl) fun a hF => ?_
  refine ps_nil hF rfl rfl rfl rfl rfl fun a hF => ?_
  refine ps hF rfl rfl rfl rfl (fun w => r_fieldaddr0 hF rfl rfl fd67_1) fun a hF => ?_
  refine pl_start fun w hE => ?_
  replace hH := hH.ext hE
  refine ⟨hH, ?_⟩
  refine pp hF rfl rfl rfl rfl (fun w hH => r_load hF rfl rfl fl9 (own_cell (i := 1) (v := .string (mk s)) hH rfl rfl)) fun a hF => ?_
  refine pp hF rfl rfl rfl rfl (fun w hH => r_load hF rfl rfl fl64 (own_cell (i := 1) (v := ptr gc) hH rfl rfl)) fun a hF => ?_
  refine po ?_
  refine zc hF rfl rfl fn57 (at_spec hH) ?_
  rintro _ w ⟨rfl, hH⟩ a hF
  skip
  refine wpList_nil (po_end (hH) ?_)
  refine pt ?_
  refine to ?_
  refine zc hF rfl rfl fn56 (compRead_spec s p hs _ (hG.errs.ext hH.below)) ?_
  rintro _ w ⟨rfl, hE⟩ a hF
  replace hH := hH.ext hE
  refine wpList_nil (to_end ?_)
  refine tp hF rfl rfl rfl rfl (fun w => r_move hF rfl rfl) fun a hF => ?_
  refine tp hF rfl rfl rfl rfl (fun w => r_extract hF rfl rfl rfl) fun a hF => ?_
  refine tp hF rfl rfl rfl rfl (fun w => r_extract hF rfl rfl rfl) fun a hF => ?_
  refine tp hF rfl rfl rfl rfl (fun w => r_extract hF rfl rfl rfl) fun a hF => ?_
  refine tt ?_
  refine zm 3 hF rfl fun a hF => ?_
  refine pt_end ?_
  replace hF := hF.sel [0, 3, 4, 5]
  simp only [ss, Nat.reduceBEq] at hF
  refine k1 ?_
  refine c_sr fun ops => ?_
  refine zm 1 hF rfl fun a hF => ?_
  refine ls_callT hF rfl rfl rfl rfl rfl fn21 (must_spec _ _) (fun n w hE => hpan hF (⟨hE.1, hE.2.1, ((hH.ext hE.2.2).drop).drop⟩)) ?_
  rintro _ w ⟨rfl, he, hE⟩ a hF
  replace hH := hH.ext hE
  refine c_n ?_
  replace hF := hF.sel [0, 3, 4]
  simp only [ss, Nat.reduceBEq] at hF
  have hnx := readAt_next he
  refine c_sr fun ops => ?_
  refine zm 1 hF rfl fun a hF => ?_
  refine zl hF rfl (r_nilcheck hF rfl rfl) fun a hF => ?_
  refine zl hF rfl (r_fieldaddr0 hF rfl rfl fd67_1) fun a hF => ?_
  refine zl hF rfl (r_load hF rfl rfl fl64 (own_cell (i := 1) (v := ptr gc) hH rfl rfl)) fun a hF => ?_
  refine zm 1 hF rfl fun a hF => ?_
  refine zc hF rfl rfl fn23 (seek_spec' (readAt s p).2.2 hH hs) ?_
  rintro _ w ⟨rfl, hH⟩ a hF
  rw [if_pos hnx.2] at hF hH
  refine zc hF rfl rfl fn21 ((must_spec 0 _).rets (fun n w h => h.2.1 rfl)) ?_
  rintro _ w ⟨rfl, _, hE⟩ a hF
  replace hH := hH.ext hE
  refine c_n ?_
  replace hF := hF.sel [3]
  simp only [ss, Nat.reduceBEq] at hF
  refine c_sr fun ops => ?_
  refine zm 2 hF rfl fun a hF => ?_
  refine c_n ?_
  replace hF := hF.sel [2]
  simp only [ss, Nat.reduceBEq] at hF
  refine wp_ret (hret (ret1 hF Tryz.results24 rfl ?_))
  exact ⟨rfl, he, hH⟩
end
end Go.Proofs.YtpoebplhemimmaaGreatDoor
namespace Go.Proofs.YtpoebplhemimmaaGreatDoor
variable {Ds : List Deferred}
open Go.RowKit
set_option linter.unusedVariables false
set_option linter.unusedSimpArgs false
set_option maxHeartbeats 1000000

section
variable {P : Program} {o : Oper} {a : Act} {w : World} {N dd : Nat} {L : List (Nat × Value)}
theorem r_slice3 (hF : FrD Ds N L a) {x y z : Operand} {t e : TypeId} {size bytes n cap h m : Nat} {ad : Option Addr} {ky kz : IntKind} (ho : o.op = .slice t x none (some y) (some z)) (hx : ev L x = some (.slice ad n cap)) (hy : ev L y = some (.int ky (h : Int))) (hz : ev L z = some (.int kz (m : Int)))
    (ht : P.underlying t = some (.slice e)) (hti : TI P e size bytes) (hb : h ≤ m ∧ m ≤ cap) : Does P o a w (.slice ad h m) w := by
  obtain ⟨inf, z, h1, _, rfl, _, _⟩ := hti
  obtain ⟨hb1, hb2⟩ := hb
  have e1 : (h : Int) ≤ (m : Int) := by omega
  have e2 : (m : Int) ≤ (cap : Int) := by omega
  left; unfold execOp
  simp [ho, hF.ev hx, hF.ev hy, hF.ev hz, Instr.sliceAt, Instr.slice, Instr.sliceBounds, Instr.sliceBound, asIntOf, run_underlying ht, sizeOf, typeInfo, h1, e1, e2, hb1, hb2]
  cases ad with
  | none => simp
  | some a => simp; intro _; rfl
end
/-- The next option of data. -/
def optR (d : Bs) (p : Nat) : Option (Opt × Nat) := if d.length < p + 4 then none else if d.length < p + 4 + num2 d (p + 2) then none else some (⟨num2 d p, (d.drop (p + 4)).take (num2 d (p + 2))⟩, p + 4 + num2 d (p + 2))
theorem optsR_step (d : Bs) (f p : Nat) (l : List Opt) : optsR d (f + 1) p l = if d.length ≤ p then (0, l) else match optR d p with
    | none => (4, [])
    | some x => optsR d f x.2 (l ++ [x.1]) := by
  rw [optsR]
  unfold optR
  split
  · rfl
  · split
    · rfl
    · split <;> rfl
theorem option_spec {w0 w1 : World} {H : List (Nat × Obj)} {gc p : Nat} {d : Bs} (hG : GX w0) (hH : Hp w0 w1 ((gc, curO d p) :: H)) (hp : p ≤ d.length) (hs : d.length < 1000000) : Rets Tryz.prog 81 [ptr gc] w1
    fun v w' => ∃ (o : Opt) (e p' : Nat), v = .tuple #[.agg (optV o).toArray, .int .i64 (e : Nat)] ∧ Hp w0 w' ((gc, curO d p') :: H) ∧ ((e = 4 ∧ optR d p = none) ∨ (e = 0 ∧ optR d p = some (o, p'))) := by
  refine rets_start Tryz.func81 rfl Tryz.ntmps81 rfl fun a Q0 hF hret hend => ?_
  simp only [argsFrom, Nat.zero_add, Nat.reduceAdd] at hF
  refine c_sr fun ops => ?_
  refine ls_alloc hF hH rfl rfl rfl rfl zv85 ?_
  intro a w g0_0 hH hE hF
  refine zm 1 hF rfl fun a hF => ?_
  refine c_n ?_
  replace hF := hF.sel [0, 2]
  simp only [ss, Nat.reduceBEq] at hF
  refine c_seq fun Q1 k1 t1 => ?_
  refine c_sr fun ops => ?_
  refine zm 1 hF rfl fun a hF => ?_
  replace hH := hH.perm (List.Perm.swap _ _ _)
  refine zc hF rfl rfl fn54 (two_cspec hG.errs hH hp hs) ?_
  rintro _ w ⟨rfl, hH⟩ a hF
  replace hH := hH.perm (List.Perm.swap _ _ _)
  refine zm 3 hF rfl fun a hF => ?_
  refine zl hF rfl (r_fieldaddr0 hF rfl rfl fd85_0) fun a hF => ?_
  refine ls_store 0 hF hH rfl rfl rfl rfl rfl fl28 ti28 rfl ((show 0 < 2 by omega)) (by simp [noFreeze]) (rfl) ?_
  intro w hH
  refine zm 1 hF rfl fun a hF => ?_
  refine c_n ?_
  replace hF := hF.sel [0, 2, 3]
  simp only [ss, Nat.reduceBEq] at hF
  refine c_sr fun ops => ?_
  refine zm 1 hF rfl fun a hF => ?_
  refine zb hF rfl rfl rfl (b_nen _ _ _ 0) fun a hF => ?_
  refine c_n ?_
  replace hF := hF.sel [0, 2, 3, 12]
  simp only [ss, Nat.reduceBEq] at hF
  refine c_if hF rfl (fun h12 => ?_) (fun h12 => ?_)
  ·
   try simp only [qq] at h12
   have hc : d.length < p + 2 := by
     by_cases hc : d.length < p + 2
     · exact hc
     · rw [if_neg hc] at h12; exact absurd rfl h12
   refine c_sr fun ops => ?_
   refine zl hF rfl (r_build hF rfl rfl (bd85 _)) fun a hF => ?_
   refine zm 1 hF rfl fun a hF => ?_
   refine ls_storeagg 0 hF hH rfl rfl rfl rfl rfl ti85 rfl (rfl) (rfl) (by simp [Value.oneCell']) ?_
   intro w hH
   refine zm 1 hF rfl fun a hF => ?_
   refine c_n ?_
   replace hF := hF.sel [2, 3]
   simp only [ss, Nat.reduceBEq] at hF
   refine wp_ret (t1.ret (hret (retc2 (fn := Tryz.f81) (t := 2) (u := 3) (i := 0) hF hH Tryz.results81 rfl rfl (by kernel_rfl) ti85 rfl rfl ?_)))
   refine ⟨⟨0, []⟩, 4, p, ?_, ?_, .inl ⟨rfl, by unfold optR; rw [if_pos (by omega)]⟩⟩
   · rw [if_pos hc]; rfl
   · rw [if_pos hc] at hH; exact hH.drop
  try simp only [qq] at h12
  have hc : ¬ d.length < p + 2 := fun hc => by rw [if_pos hc] at h12; cases h12
  simp only [if_neg hc] at hF hH
  refine wp_skip ?_
  refine k1 ?_
  refine c_sr fun ops => ?_
  refine zm 1 hF rfl fun a hF => ?_
  replace hH := hH.perm (List.Perm.swap _ _ _)
  refine zc hF rfl rfl fn54 (two_cspec hG.errs hH (by omega) hs) ?_
  rintro _ w ⟨rfl, hH⟩ a hF
  replace hH := hH.perm (List.Perm.swap _ _ _)
  refine zm 5 hF rfl fun a hF => ?_
  refine c_n ?_
  replace hF := hF.sel [0, 2, 3, 4]
  simp only [ss, Nat.reduceBEq] at hF
  refine c_seq fun Q2 k2 t2 => ?_
  refine c_sr fun ops => ?_
  refine zm 1 hF rfl fun a hF => ?_
  refine zb hF rfl rfl rfl (b_nen _ _ _ 0) fun a hF => ?_
  refine c_n ?_
  replace hF := hF.sel [0, 2, 3, 4, 21]
  simp only [ss, Nat.reduceBEq] at hF
  refine c_if hF rfl (fun h21 => ?_) (fun h21 => ?_)
  ·
   try simp only [qq] at h21
   have hc2 : d.length < p + 2 + 2 := by
     by_cases hc2 : d.length < p + 2 + 2
     · exact hc2
     · rw [if_neg hc2] at h21; exact absurd rfl h21
   refine c_sr fun ops => ?_
   refine zl hF rfl (r_build hF rfl rfl (bd85 _)) fun a hF => ?_
   refine zm 1 hF rfl fun a hF => ?_
   refine ls_storeagg 0 hF hH rfl rfl rfl rfl rfl ti85 rfl (rfl) (rfl) (by simp [Value.oneCell']) ?_
   intro w hH
   refine zm 1 hF rfl fun a hF => ?_
   refine c_n ?_
   replace hF := hF.sel [2, 3]
   simp only [ss, Nat.reduceBEq] at hF
   refine wp_ret (t2.ret (hret (retc2 (fn := Tryz.f81) (t := 2) (u := 3) (i := 0) hF hH Tryz.results81 rfl rfl (by kernel_rfl) ti85 rfl rfl ?_)))
   refine ⟨⟨0, []⟩, 4, p + 2, ?_, ?_, .inl ⟨rfl, by unfold optR; rw [if_pos (by omega)]⟩⟩
   · rw [if_pos hc2]; rfl
   · rw [if_pos hc2] at hH; exact hH.drop
  try simp only [qq] at h21
  have hc2 : ¬ d.length < p + 2 + 2 := fun hc => by rw [if_pos hc] at h21; cases h21
  simp only [if_neg hc2] at hF hH
  have hn := num2_lt d (p + 2)
  refine wp_skip ?_
  refine k2 ?_
  refine c_seq fun Q3 k3 t3 => ?_
  refine c_sr fun ops => ?_
  refine zm 2 hF rfl fun a hF => ?_
  refine zl hF rfl (r_convin hF rfl rfl (by rw [Tryz.underlying28]; rfl) Tryz.underlying3 (-9223372036854775808) 9223372036854775807 mn_i64 mx_i64 (by omega)) fun a hF => ?_
  replace hH := hH.perm (List.Perm.swap _ _ _)
  refine zc hF rfl rfl fn61 (take_spec' (num2 d (p + 2)) hG.errs hH (by omega) hs) ?_
  rintro _ w ⟨rfl, hH⟩ a hF
  replace hH := hH.perm (List.Perm.swap _ _ _)
  refine zm 3 hF rfl fun a hF => ?_
  refine zl hF rfl (r_fieldaddr0 hF rfl rfl fd85_1) fun a hF => ?_
  refine ls_store 0 hF hH rfl rfl rfl rfl rfl fl9 ti9 rfl ((show 1 < 2 by omega)) (by simp [noFreeze]) (rfl) ?_
  intro w hH
  refine zm 1 hF rfl fun a hF => ?_
  refine c_n ?_
  replace hF := hF.sel [2, 3]
  simp only [ss, Nat.reduceBEq] at hF
  refine c_sr fun ops => ?_
  refine zm 1 hF rfl fun a hF => ?_
  refine zb hF rfl rfl rfl (b_nen _ _ _ 0) fun a hF => ?_
  refine c_n ?_
  replace hF := hF.sel [2, 3, 33]
  simp only [ss, Nat.reduceBEq] at hF
  refine c_if hF rfl (fun h33 => ?_) (fun h33 => ?_)
  ·
   try simp only [qq] at h33
   have hc3 : d.length < p + 2 + 2 + num2 d (p + 2) := by
     by_cases hc3 : d.length < p + 2 + 2 + num2 d (p + 2)
     · exact hc3
     · rw [if_neg hc3] at h33; exact absurd rfl h33
   refine c_sr fun ops => ?_
   refine zl hF rfl (r_build hF rfl rfl (bd85 _)) fun a hF => ?_
   refine zm 1 hF rfl fun a hF => ?_
   refine ls_storeagg 0 hF hH rfl rfl rfl rfl rfl ti85 rfl (rfl) (rfl) (by simp [Value.oneCell']) ?_
   intro w hH
   refine zm 1 hF rfl fun a hF => ?_
   refine c_n ?_
   replace hF := hF.sel [2, 3]
   simp only [ss, Nat.reduceBEq] at hF
   refine wp_ret (t3.ret (hret (retc2 (fn := Tryz.f81) (t := 2) (u := 3) (i := 0) hF hH Tryz.results81 rfl rfl (by kernel_rfl) ti85 rfl rfl ?_)))
   refine ⟨⟨0, []⟩, 4, p + 2 + 2, ?_, ?_, .inl ⟨rfl, by unfold optR; rw [if_neg (by omega), if_pos (by omega)]⟩⟩
   · rw [if_pos hc3]; rfl
   · rw [if_pos hc3] at hH; exact hH.drop
  try simp only [qq] at h33
  have hc3 : ¬ d.length < p + 2 + 2 + num2 d (p + 2) := fun hc => by rw [if_pos hc] at h33; cases h33
  simp only [if_neg hc3] at hF hH
  refine wp_skip ?_
  refine k3 ?_
  replace hH : Hp w0 w ((g0_0, .cells (optV ⟨num2 d p, (d.drop (p + 2 + 2)).take (num2 d (p + 2))⟩).toArray 85 (0, 0)) :: (gc, curO d (p + 2 + 2 + num2 d (p + 2))) :: H) := hH
  refine c_sr fun ops => ?_
  refine zl hF rfl (r_loadagg hF rfl rfl Tryz.underlying85 ti85 rfl (own_agg (i := 0) hH rfl)) fun a hF => ?_
  refine ls_storeagg 0 hF hH rfl rfl rfl rfl rfl ti85 rfl (rfl) (rfl) (by simp [optV, Value.oneCell']) ?_
  intro w hH
  refine zm 1 hF rfl fun a hF => ?_
  refine c_n ?_
  replace hF := hF.sel [2, 3]
  simp only [ss, Nat.reduceBEq] at hF
  refine wp_ret (hret (retc2 (fn := Tryz.f81) (t := 2) (u := 3) (i := 0) hF hH Tryz.results81 rfl rfl (by kernel_rfl) ti85 rfl rfl ?_))
  refine ⟨⟨num2 d p, (d.drop (p + 4)).take (num2 d (p + 2))⟩, 0, p + 4 + num2 d (p + 2), ?_, ?_, .inr ⟨rfl, by unfold optR; rw [if_neg (by omega), if_neg (by omega)]⟩⟩
  · rfl
  · exact hH.drop
theorem optR_le {d : Bs} {p p' : Nat} {o : Opt} (h : optR d p = some (o, p')) : p < p' ∧ p' ≤ d.length ∧ OptL o ∧ o.data.length ≤ d.length := by
  unfold optR at h
  split at h
  · cases h
  · split at h
    · cases h
    · rename_i h1 h2
      simp only [Option.some.injEq, Prod.mk.injEq] at h
      obtain ⟨rfl, rfl⟩ := h
      have hn := num2_lt d (p + 2)
      refine ⟨by omega, by omega, ⟨num2_lt _ _, ?_⟩, ?_⟩
      · show ((d.drop (p + 4)).take (num2 d (p + 2))).length ≤ _
        rw [List.length_take]; omega
      · show ((d.drop (p + 4)).take (num2 d (p + 2))).length ≤ _
        rw [List.length_take, List.length_drop]; omega
section
variable {P : Program} {w : World}
theorem b_shr24 (t : TypeId) (n : Nat) : (binOp .shr t (.int .u32 (n : Int)) (.int .u64 24)).run P w = .ok (.int .u32 ((n / 16777216 : Nat) : Int)) w := by simp [go_sem]
theorem b_shr16 (t : TypeId) (n : Nat) : (binOp .shr t (.int .u32 (n : Int)) (.int .u64 16)).run P w = .ok (.int .u32 ((n / 65536 : Nat) : Int)) w := by simp [go_sem]
end
theorem r_convmod {P : Program} {o : Oper} {a : Act} {w : World} {N : Nat} {L : List (Nat × Value)} {x : Operand} {s d : TypeId} {k : IntKind} {n : Nat} (hF : FrD Ds N L a) (ho : o.op = .convert s d x) (hx : ev L x = some (.int k (n : Int))) (hs : (P.underlying s).isSome = true) (hd : P.underlying d = some (.int .u8)) :
    Does P o a w (.int .u8 ((n % 256 : Nat) : Int)) w := by
  have := r_conv (w := w) hF ho hx hs hd
  have e : IntKind.u8.wrap (n : Int) = ((n % 256 : Nat) : Int) := by
    have : IntKind.u8.wrap (n : Int) = (n : Int) % 256 := by simp [IntKind.wrap, IntKind.bits, IntKind.signed]
    rw [this]; omega
  rwa [e] at this
theorem r_convmod16 {P : Program} {o : Oper} {a : Act} {w : World} {N : Nat} {L : List (Nat × Value)} {x : Operand} {s d : TypeId} {k : IntKind} {n : Nat} (hF : FrD Ds N L a) (ho : o.op = .convert s d x) (hx : ev L x = some (.int k (n : Int))) (hs : (P.underlying s).isSome = true) (hd : P.underlying d = some (.int .u16)) :
    Does P o a w (.int .u16 ((n % 65536 : Nat) : Int)) w := by
  have := r_conv (w := w) hF ho hx hs hd
  have e : IntKind.u16.wrap (n : Int) = ((n % 65536 : Nat) : Int) := by
    rw [IntKind.wrap_u16]; omega
  rwa [e] at this
theorem RSl.full {w : World} {size n cap : Nat} {ad : Option Addr} {xs : List Value} (h : RSl w size (.slice ad n cap) n xs) : RSl w size (.slice ad n n) n xs := by
  obtain ⟨h1, a, c, e, h2, h3, h4⟩ := h
  cases e
  exact ⟨h1, _, n, rfl, Nat.le_refl _, Nat.le_trans h2 h3, h4.imp (fun h => ⟨trivial, h.2.2, h.2.2⟩) id⟩
theorem Sl.le_cap {e : TypeId} {size : Nat} {B : List (Nat × Obj)} {ad : Option Addr} {n cap : Nat} {xs : List Value} (h : Sl e size B (.slice ad n cap) n xs) : n ≤ cap := by
  rcases h.2 with ⟨_, h0, _⟩ | ⟨g, c, cur, hv, _, h1, _⟩
  · omega
  · cases hv; exact h1
theorem optV_flat1 (l : List Opt) (o : Opt) : l.flatMap optV ++ (optV o) = (l ++ [o]).flatMap optV := by simp
theorem eread_spec (cls ttl : Nat) (d : Bs) (hd : d.length < 1000000) (ht : ttl < 4294967296) (w0 : World) (hG : GX w0) : Rets Tryz.prog 63 [.int .u16 (cls : Nat), .int .u32 (ttl : Nat), .string (mk d)] w0
    fun v w' => ∃ ov B, v = .tuple #[.agg (edV (ednsR cls ttl d).2 ov).toArray, .int .i64 ((ednsR cls ttl d).1 : Nat)] ∧ Hp w0 w' B ∧ Sl 85 2 B ov (ednsR cls ttl d).2.opts.length ((ednsR cls ttl d).2.opts.flatMap optV) := by
  have hH := Hp.refl w0
  refine rets_start Tryz.func63 rfl Tryz.ntmps63 rfl fun a Q0 hF hret hend => ?_
  simp only [argsFrom, Nat.zero_add, Nat.reduceAdd] at hF
  refine c_sr fun ops => ?_
  refine ls_alloc hF hH rfl rfl rfl rfl zv35 ?_
  intro a w g0_0 hH hE hF
  refine zm 1 hF rfl fun a hF => ?_
  refine c_n ?_
  replace hF := hF.sel [0, 1, 2, 6]
  simp only [ss, Nat.reduceBEq] at hF
  refine c_sr fun ops => ?_
  refine zm 2 hF rfl fun a hF => ?_
  refine zb hF rfl rfl rfl (b_shr24 _ ttl) fun a hF => ?_
  refine zl hF rfl (r_convin hF rfl rfl (by rw [Tryz.underlying54]; rfl) Tryz.underlying5 (0) 255 mn_u8 mx_u8 (by omega)) fun a hF => ?_
  refine zm 1 hF rfl fun a hF => ?_
  refine zb hF rfl rfl rfl (b_shr16 _ ttl) fun a hF => ?_
  refine zl hF rfl (r_convmod hF rfl rfl (by rw [Tryz.underlying54]; rfl) Tryz.underlying5) fun a hF => ?_
  refine zm 1 hF rfl fun a hF => ?_
  refine zl hF rfl (r_convmod16 hF rfl rfl (by rw [Tryz.underlying54]; rfl) Tryz.underlying28) fun a hF => ?_
  refine zl hF rfl (r_build hF rfl rfl (bd35_0_1_2_3 _ _ _ _ _ (rfl) (rfl) (rfl) (rfl))) fun a hF => ?_
  refine ls_alloc hF hH rfl rfl rfl rfl zv35 ?_
  intro a w g1_10 hH hE hF
  refine ls_storeagg 0 hF hH rfl rfl rfl rfl rfl ti35 rfl (rfl) (rfl) (by simp [Value.oneCell']) ?_
  intro w hH
  refine c_n ?_
  replace hF := hF.sel [2, 6, 8]
  simp only [ss, Nat.reduceBEq] at hF
  refine c_sr fun ops => ?_
  refine zm 1 hF rfl fun a hF => ?_
  refine zc hF rfl rfl fn22 (new_spec d _) ?_
  rintro _ w ⟨gc, rfl, hC⟩ a hF
  replace hH := hH.join hC
  refine zm 1 hF rfl fun a hF => ?_
  refine c_n ?_
  replace hF := hF.sel [6, 8, 9]
  simp only [ss, Nat.reduceBEq] at hF
  obtain ⟨ed, hed⟩ : ∃ ed : List Opt → Ed, ed = fun l => ⟨cls, ttl / 16777216, ttl / 65536 % 256, ttl % 65536, l⟩ := ⟨_, rfl⟩
  replace hH : Hp w0 w ((gc, curO d 0) :: (g1_10, .cells (edV (ed []) (.slice none 0 0)).toArray 35 (0, 0)) :: ([] ++ [(g0_0, .cells (edV ⟨0, 0, 0, 0, []⟩ (.slice none 0 0)).toArray 35 (0, 0))])) := by rw [hed]; exact hH
  have hedo : ∀ l, (ed l).opts = l := fun l => by rw [hed]
  obtain ⟨r0, hr0⟩ : ∃ r0, optsR d (d.length + 1) 0 [] = r0 := ⟨_, rfl⟩
  have hres : ednsR cls ttl d = if r0.1 ≠ 0 then (r0.1, ⟨0, 0, 0, 0, []⟩) else (0, ed r0.2) := by rw [hed, ← hr0]; rfl
  refine c_seq fun Q1 k1 t1 => ?_
  refine c_block fun Q2 t2 => ?_
  refine c_loop (fun n a w => ∃ p l ov B, d.length - p < n ∧ p ≤ d.length ∧ l.length ≤ p ∧ r0 = optsR d n p l ∧ Fr 50 [(6, ptr g0_0), (8, ptr g1_10), (9, ptr gc)] a ∧ Hp w0 w ((gc, curO d p) :: (g1_10, .cells (edV (ed l) ov).toArray 35 (0, 0)) :: (B ++ [(g0_0, .cells (edV ⟨0, 0, 0, 0, []⟩ (.slice none 0 0)).toArray 35 (0, 0))])) ∧ Sl 85 2 B ov l.length (l.flatMap optV)) ?_ ?_
  ·
   exact ⟨d.length + 1, 0, [], _, [], by omega, Nat.zero_le _, Nat.le_refl _, hr0.symm, hF.keep [6, 8, 9] rfl, hH, Sl.nil _ _⟩
  clear hH hF
  intro n a w hI Q3 k3 t3
  obtain ⟨p, l, ov, B, hm, hp, hlp, he, hF, hH, hO⟩ := hI
  obtain ⟨oad, ocp, rfl⟩ := hO.shape
  have hlc := hO.le_cap
  obtain ⟨f, rfl⟩ : ∃ f, n = f + 1 := ⟨n - 1, by omega⟩
  rw [optsR_step] at he
  refine c_seq fun Q4 k4 t4 => ?_
  refine c_sr fun ops => ?_
  refine zm 1 hF rfl fun a hF => ?_
  refine zc hF rfl rfl fn29 (left_spec hH hp hd) ?_
  rintro _ w ⟨rfl, hH⟩ a hF
  refine zb hF rfl rfl rfl (b_gtn _ _ _ 0) fun a hF => ?_
  refine c_n ?_
  refine c_fi hF rfl (fun h26 => ?_) (fun h26 => ?_)
  ·
   try simp only [qq] at h26
   rw [if_pos (by omega)] at he
   refine wp_exit (t4.exit (t3.exit (t2.here (?_))))
   refine k1 ?_
   replace hH : Hp w0 w ([(g1_10, .cells (edV (ed l) (.slice oad l.length ocp)).toArray 35 (0, 0))] ++ ([(g0_0, .cells (edV ⟨0, 0, 0, 0, []⟩ (.slice none 0 0)).toArray 35 (0, 0))] ++ B)) :=
     (show Hp w0 w ([(gc, curO d p)] ++ ([(g1_10, .cells (edV (ed l) (.slice oad l.length ocp)).toArray 35 (0, 0))] ++ (B ++ [(g0_0, .cells (edV ⟨0, 0, 0, 0, []⟩ (.slice none 0 0)).toArray 35 (0, 0))]))) from hH).pick (R := [(gc, curO d p)]) (fun z => by simp only [List.count_append]; omega)
   refine c_sr fun ops => ?_
   refine zl hF rfl (r_loadagg hF rfl rfl Tryz.underlying35 ti35 rfl (own_agg (i := 0) (cs := (edV (ed l) (.slice oad l.length ocp)).toArray) hH rfl)) fun a hF => ?_
   refine ls_storeagg 1 hF hH rfl rfl rfl rfl rfl ti35 rfl (rfl) (rfl) (by simp [edV, Value.oneCell']) ?_
   intro w hH
   refine zm 1 hF rfl fun a hF => ?_
   refine c_n ?_
   replace hF := hF.sel [6, 7]
   simp only [ss, Nat.reduceBEq] at hF
   refine wp_ret (hret (retc2 (fn := Tryz.f63) (t := 6) (u := 7) (i := 1) hF hH Tryz.results63 rfl rfl (by kernel_rfl) ti35 rfl rfl ?_))
   refine ⟨.slice oad l.length ocp, B, ?_, (show Hp w0 w ([_] ++ ([_] ++ B)) from hH).sub ((List.sublist_append_right _ B).trans (List.sublist_append_right _ _)), ?_⟩
   · rw [hres, he, if_neg (by show ¬ (0 : Nat) ≠ 0; omega)]; rfl
   · rw [hres, he, if_neg (by show ¬ (0 : Nat) ≠ 0; omega)]; simp only [hedo]; exact hO
  try simp only [qq] at h26
  rw [if_neg (by omega)] at he
  refine wp_skip ?_
  refine k4 ?_
  refine c_block fun Q5 t5 => ?_
  refine c_sr fun ops => ?_
  refine zm 1 hF rfl fun a hF => ?_
  refine zc hF rfl rfl fn81 (option_spec hG hH hp hd) ?_
  rintro _ w ⟨o, e, p', rfl, hH, hcase⟩ a hF
  refine zm 3 hF rfl fun a hF => ?_
  refine ls_alloc hF hH rfl rfl rfl rfl zv85 ?_
  intro a w g4_5 hH hE hF
  refine ls_storeagg 0 hF hH rfl rfl rfl rfl rfl ti85 rfl (rfl) (rfl) (by simp [optV, Value.oneCell']) ?_
  intro w hH
  refine zm 1 hF rfl fun a hF => ?_
  refine c_n ?_
  refine c_seq fun Q6 k6 t6 => ?_
  refine c_sr fun ops => ?_
  refine zm 1 hF rfl fun a hF => ?_
  refine zb hF rfl rfl rfl (b_nen _ _ _ 0) fun a hF => ?_
  refine c_n ?_
  refine c_if hF rfl (fun h33 => ?_) (fun h33 => ?_)
  ·
   try simp only [qq] at h33
   obtain ⟨he4, hno⟩ : e = 4 ∧ optR d p = none := by
     rcases hcase with h | h
     · exact h
     · exact absurd h.1 h33
   rw [hno] at he
   simp only at he
   refine c_sr fun ops => ?_
   refine zl hF rfl (r_build hF rfl rfl (bd35 _)) fun a hF => ?_
   refine zm 1 hF rfl fun a hF => ?_
   replace hH : Hp w0 w ([(g0_0, .cells (edV ⟨0, 0, 0, 0, []⟩ (.slice none 0 0)).toArray 35 (0, 0))] ++ []) :=
     (show Hp w0 w ([(g4_5, .cells (optV o).toArray 85 (0, 0))] ++ ([(gc, curO d p')] ++ ([(g1_10, .cells (edV (ed l) (.slice oad l.length ocp)).toArray 35 (0, 0))] ++ (B ++ [(g0_0, .cells (edV ⟨0, 0, 0, 0, []⟩ (.slice none 0 0)).toArray 35 (0, 0))])))) from hH).pick (R := [(g4_5, .cells (optV o).toArray 85 (0, 0))] ++ ([(gc, curO d p')] ++ ([(g1_10, .cells (edV (ed l) (.slice oad l.length ocp)).toArray 35 (0, 0))] ++ B))) (fun z => by simp only [List.count_append, List.count_nil]; omega)
   refine ls_storeagg 0 hF hH rfl rfl rfl rfl rfl ti35 rfl (rfl) (rfl) (by simp [Value.oneCell']) ?_
   intro w hH
   refine zm 1 hF rfl fun a hF => ?_
   refine c_n ?_
   refine wp_ret (t6.ret (t5.ret (t3.ret (t2.ret (t1.ret (hret (retc2 (fn := Tryz.f63) (t := 6) (u := 7) (i := 0) hF hH Tryz.results63 rfl rfl (by kernel_rfl) ti35 rfl rfl ?_)))))))
   refine ⟨.slice none 0 0, [], ?_, hH.sub (List.nil_sublist _), ?_⟩
   · rw [hres, he, if_pos (by show (4 : Nat) ≠ 0; omega), he4]; rfl
   · rw [hres, he, if_pos (by show (4 : Nat) ≠ 0; omega)]; exact Sl.nil _ _
  try simp only [qq] at h33
  obtain ⟨he0, hopt⟩ : e = 0 ∧ optR d p = some (o, p') := by
    rcases hcase with h | h
    · rw [h.1] at h33; cases h33
    · exact h
  rw [hopt] at he
  simp only at he
  have hol := optR_le hopt
  replace hH : Hp w0 w ([(g4_5, .cells (optV o).toArray 85 (0, 0))] ++ ([(gc, curO d p')] ++ ([(g1_10, .cells (edV (ed l) (.slice oad l.length ocp)).toArray 35 (0, 0))] ++ (B ++ [(g0_0, .cells (edV ⟨0, 0, 0, 0, []⟩ (.slice none 0 0)).toArray 35 (0, 0))])))) := hH
  refine wp_skip ?_
  refine k6 ?_
  refine c_planF hF [] [0, 2, 5] [.p 1, .p 3, .p 4, .p 6, .p 7, .p 8, .p 9, .o 10] [] [11, 12, 13] [0, 2, 5, 1, 3, 4, 6, 7, 8, 9, 10] (hH.S) (by kernel_rfl) (by kernel_rfl) rfl ?_
  refine ps hF rfl rfl rfl rfl (fun w => r_fieldaddr0 hF rfl rfl fd35_4) fun a hF => ?_
  refine ps hF rfl rfl rfl rfl (fun w => r_fieldaddr0 hF rfl rfl fd35_4) fun a hF => ?_
  refine ps hF rfl rfl rfl rfl (fun w => r_fieldaddr0 hF rfl rfl fd35_4) fun a hF => ?_
  refine pl_start fun w hE => ?_
  replace hH := hH.ext hE
  refine ⟨hH, ?_⟩
  refine pp hF rfl rfl rfl rfl (fun w hH => r_load hF rfl rfl fl33 (own_cell (i := 2) (v := .slice oad l.length ocp) hH rfl rfl)) fun a hF => ?_
  refine pp hF rfl rfl rfl rfl (fun w hH => r_load hF rfl rfl fl33 (own_cell (i := 2) (v := .slice oad l.length ocp) hH rfl rfl)) fun a hF => ?_
  refine pp hF rfl rfl rfl rfl (fun w hH => r_len_sl hF rfl rfl Tryz.underlying33) fun a hF => ?_
  refine pp hF rfl rfl rfl rfl (fun w hH => r_load hF rfl rfl fl33 (own_cell (i := 2) (v := .slice oad l.length ocp) hH rfl rfl)) fun a hF => ?_
  refine pp hF rfl rfl rfl rfl (fun w hH => r_len_sl hF rfl rfl Tryz.underlying33) fun a hF => ?_
  refine pp hF rfl rfl rfl rfl (fun w hH => r_slice3 hF rfl rfl rfl rfl Tryz.underlying33 ti85 (⟨Nat.le_refl _, hlc⟩)) fun a hF => ?_
  refine pp hF rfl rfl rfl rfl (fun w hH => r_loadagg hF rfl rfl Tryz.underlying85 ti85 rfl (own_agg (i := 0) hH rfl)) fun a hF => ?_
  refine po ?_
  refine ls_build1 hF hH rfl rfl rfl rfl rfl Tryz.underlying33 ti85 rfl (by decide) ?_
  intro a w g7_10 hH hE hF
  refine wpList_nil (po_end (hH.drop) ?_)
  refine pt ?_
  refine tt ?_
  have hlit := rsl_lit (n := 1) (size := 2) hH rfl (by decide)
  refine ls_appendg hF rfl rfl rfl rfl rfl rfl Tryz.underlying33 ti85 (hO.rsl hH fun p hp => List.mem_cons_of_mem _ (List.mem_append_right _ (List.mem_append_right _ (List.mem_append_right _ (List.mem_append_left _ hp))))).full hlit (by decide) (by decide) (by omega) ?_
  intro a v7_11 w B2 hB2 hS2 hF
  replace hH := hH.join hB2
  refine zl hF rfl (r_fieldaddr0 hF rfl rfl fd35_4) fun a hF => ?_
  replace hH : Hp w0 w ([(g1_10, .cells (edV (ed l) (.slice oad l.length ocp)).toArray 35 (0, 0))] ++ ([(gc, curO d p')] ++ (B2 ++ [(g0_0, .cells (edV ⟨0, 0, 0, 0, []⟩ (.slice none 0 0)).toArray 35 (0, 0))]))) :=
    (show Hp w0 w (B2 ++ ([(g7_10, .cells (optV o).toArray 85 (0, 0))] ++ ([(g4_5, .cells (optV o).toArray 85 (0, 0))] ++ ([(gc, curO d p')] ++ ([(g1_10, .cells (edV (ed l) (.slice oad l.length ocp)).toArray 35 (0, 0))] ++ (B ++ [(g0_0, .cells (edV ⟨0, 0, 0, 0, []⟩ (.slice none 0 0)).toArray 35 (0, 0))])))))) from hH).pick (R := [(g7_10, .cells (optV o).toArray 85 (0, 0))] ++ ([(g4_5, .cells (optV o).toArray 85 (0, 0))] ++ B)) (fun z => by simp only [List.count_append]; omega)
  refine ls_store 0 hF hH rfl rfl rfl rfl rfl fl33 ti33 rfl ((show 4 < 5 by decide)) (by simp [noFreeze]) (hS2.one) ?_
  intro w hH
  refine pt_end ?_
  refine t5.norm ?_
  refine k3 ?_
  have hS3 : Sl 85 2 B2 v7_11 (l ++ [o]).length ((l ++ [o]).flatMap optV) := by rw [List.length_append, ← optV_flat1]; exact hS2
  exact ⟨f, by omega, p', l ++ [o], v7_11, B2, by omega, by omega, by rw [List.length_append]; simp; omega, he, hF.keep [6, 8, 9] rfl, (show Hp w0 w ((g1_10, .cells (edV (ed (l ++ [o])) v7_11).toArray 35 (0, 0)) :: (gc, curO d p') :: (B2 ++ [(g0_0, .cells (edV ⟨0, 0, 0, 0, []⟩ (.slice none 0 0)).toArray 35 (0, 0))])) from by rw [hed] at hH ⊢; exact hH).perm (List.Perm.swap _ _ _), hS3⟩
end Go.Proofs.YtpoebplhemimmaaGreatDoor
namespace Go.Proofs.YtpoebplhemimmaaGreatDoor
variable {Ds : List Deferred}
open Go.RowKit
set_option linter.unusedVariables false
set_option linter.unusedSimpArgs false
set_option maxHeartbeats 1000000

/-! ### Data that are read: how long they are -/
theorem flatP_snoc (q : Pieces) (x : Bs) (b : Bool) : (flatP (q ++ [(x, b)])).length = (flatP q).length + x.length := by simp [flatP]
theorem textsG_flat {msg : Bs} : ∀ (f p : Nat) (q : Pieces), p ≤ msg.length → (flatP (textsG msg f p q).2.2).length + p ≤ (flatP q).length + msg.length
  | 0, p, q, hp => by simp only [textsG]; omega
  | f + 1, p, q, hp => by
    unfold textsG
    by_cases h1 : msg.length ≤ p
    · rw [if_pos h1]; simp only; omega
    · rw [if_neg h1]
      by_cases h2 : msg.length < p + 1 + (msg.getD p 0).toNat
      · rw [if_pos h2]; simp only; omega
      · rw [if_neg h2]
        have h4 : ((msg.take (p + 1 + (msg.getD p 0).toNat)).drop p).length = 1 + (msg.getD p 0).toNat := by
          rw [List.length_drop, List.length_take, Nat.min_eq_left (Nat.le_of_not_lt h2)]; omega
        have h3 := flatP_snoc q ((msg.take (p + 1 + (msg.getD p 0).toNat)).drop p) false
        rw [h4] at h3
        by_cases h5 : msg.length ≤ p + 1 + (msg.getD p 0).toNat
        · rw [if_pos h5]; simp only; omega
        · rw [if_neg h5]
          have := textsG_flat (msg := msg) f (p + 1 + (msg.getD p 0).toNat) (q ++ [((msg.take (p + 1 + (msg.getD p 0).toNat)).drop p, false)]) (by omega)
          omega
theorem doPart_flat {msg : Bs} {whole : Bool} {p : Nat} {q : Pieces} (hp : p ≤ msg.length) (x : Part) : (flatP (doPart msg whole p q x).2.2).length ≤ (flatP q).length + msg.length + 255 := by
  cases x with
  | fixed n =>
    simp only [doPart]
    split
    · simp only; omega
    · simp only [flatP_snoc, List.length_take, List.length_drop]; omega
  | named =>
    simp only [doPart]
    split
    · simp only; omega
    · rename_i h
      have := may_len (readAt_may (Decidable.not_not.1 h))
      split
      · simp only; omega
      · simp only [flatP_snoc]; omega
  | texts => have := textsG_flat (msg := msg) (msg.length + 1) p q hp; simp only [doPart]; omega
  | rest => simp only [doPart, flatP_snoc, List.length_drop]; omega
theorem doParts_bound {msg : Bs} {whole : Bool} : ∀ (xs : List Part) (p : Nat) (q : Pieces), p ≤ msg.length → (flatP (doParts msg whole xs p q).2.2).length ≤ (flatP q).length + xs.length * (msg.length + 255) ∧ (doParts msg whole xs p q).2.2.length ≤ q.length + xs.length * (msg.length + 1)
  | [], p, q, _ => by simp [doParts]
  | x :: xs, p, q, hp => by
    have h1 := doPart_flat (whole := whole) (q := q) hp x
    rw [doParts_cons]
    split
    · rename_i h0
      have h2 := doPart_le (whole := whole) (q := q) hp x h0
      have h3 := doParts_bound (whole := whole) xs (doPart msg whole p q x).2.1 (doPart msg whole p q x).2.2 h2.1
      rw [List.length_cons, Nat.add_mul, Nat.add_mul]
      omega
    · rename_i h0
      obtain ⟨t, ht⟩ : ∃ t, (doPart msg whole p q x).2.2 = q ++ t := doPart_grow x p q
      have h4 : (doPart msg whole p q x).2.2.length ≤ q.length + (msg.length + 1) := by
        cases x with
        | fixed n => simp only [doPart]; split <;> simp
        | named =>
          simp only [doPart]
          split
          · simp
          · split <;> simp
        | texts =>
          have go : ∀ (f p : Nat) (q : Pieces), p ≤ msg.length → (textsG msg f p q).2.2.length + p ≤ q.length + msg.length + 1 := by
            intro f
            induction f with
            | zero => intro p q hp; simp [textsG]; omega
            | succ f ih =>
              intro p q hp
              unfold textsG
              split
              · simp only; omega
              · split
                · simp only; omega
                · split
                  · simp only [List.length_append, List.length_cons, List.length_nil]; omega
                  · have := ih (p + 1 + (msg.getD p 0).toNat) (q ++ [((msg.take (p + 1 + (msg.getD p 0).toNat)).drop p, false)]) (by omega)
                    simp only [List.length_append, List.length_cons, List.length_nil] at this ⊢
                    omega
          have := go (msg.length + 1) p q hp
          simp only [doPart]; omega
        | rest => simp [doPart]
      rw [List.length_cons, Nat.add_mul, Nat.add_mul]
      omega
theorem readD_bound (msg : Bs) (at' kind : Nat) (whole : Bool) (h : at' ≤ msg.length) : (flatP (readD msg at' kind whole).2).length ≤ 3 * (msg.length + 255) ∧ (readD msg at' kind whole).2.length ≤ 3 * (msg.length + 1) := by
  unfold readD
  split
  · simp [flatP]
  · rename_i l hl
    have h3 := partsOf_len hl
    have h1 := doParts_bound (whole := whole) l at' [] h
    have h4 : l.length * (msg.length + 255) ≤ 3 * (msg.length + 255) := Nat.mul_le_mul_right _ h3
    have h5 : l.length * (msg.length + 1) ≤ 3 * (msg.length + 1) := Nat.mul_le_mul_right _ h3
    unfold readE
    split
    · split
      · simp [flatP]
      · simp only [flatP, List.map_nil, List.flatten_nil, List.length_nil] at h1 ⊢
        omega
    · simp [flatP]
/-- Data, as a message's bytes say them. -/
def rdN (s : Bs) (at' n kind : Nat) : Nat × Bs := ((readD (s.take (at' + n)) at' kind false).1, if (readD (s.take (at' + n)) at' kind false).1 ≠ 0 then [] else flatP (readD (s.take (at' + n)) at' kind false).2)
theorem drread_spec (s : Bs) (at' n kind : Nat) (hn : at' + n ≤ s.length) (hs : s.length < 300000) (w0 : World) (hG : GX w0) : Rets Tryz.prog 64 [.string (mk s), .int .i64 (at' : Nat), .int .i64 (n : Nat), .int .u16 (kind : Nat)] w0
    fun v w' => v = .tuple #[.string (mk (rdN s at' n kind).2), .int .i64 ((rdN s at' n kind).1 : Nat)] ∧ Ext w0 w' := by
  have hH := Hp.refl w0
  have htl : (s.take (at' + n)).length = at' + n := by rw [List.length_take]; omega
  have hbd := readD_bound (s.take (at' + n)) at' kind false (by omega)
  rw [htl] at hbd
  refine rets_start Tryz.func64 rfl Tryz.ntmps64 rfl fun a Q0 hF hret hend => ?_
  simp only [argsFrom, Nat.zero_add, Nat.reduceAdd] at hF
  refine c_sr fun ops => ?_
  refine zm 2 hF rfl fun a hF => ?_
  refine c_n ?_
  replace hF := hF.sel [0, 1, 2, 3]
  simp only [ss, Nat.reduceBEq] at hF
  refine c_seq fun Q1 k1 t1 => ?_
  refine c_sg ?_
  refine zm 1 hF rfl fun a hF => ?_
  refine zb hF rfl rfl rfl (b_ltn _ _ _ 0) fun a hF => ?_
  refine zm 1 hF rfl fun a hF => ?_
  refine ls_ask (d := 14) hF rfl (fun g1_2 => ?_) (fun g1_2 => ?_)
  ·
   have g1_2' := g1_2; try simp only [qq] at g1_2'
   omega
  have g1_2' := g1_2; try simp only [qq] at g1_2'
  refine zy hF rfl g1_2 (r_move hF rfl rfl) fun a hF => ?_
  refine zy hF rfl g1_2 (zr hF rfl rfl (b_ltn _ _ _ 0)) fun a hF => ?_
  refine zl hF rfl (r_pickf hF rfl rfl g1_2 rfl) fun a hF => ?_
  refine zm 1 hF rfl fun a hF => ?_
  refine ls_ask (d := 18) hF rfl (fun g1_6 => ?_) (fun g1_6 => ?_)
  ·
   have g1_6' := g1_6; try simp only [qq] at g1_6'
   omega
  have g1_6' := g1_6; try simp only [qq] at g1_6'
  refine zy hF rfl g1_6 (r_move hF rfl rfl) fun a hF => ?_
  refine zy hF rfl g1_6 (r_move hF rfl rfl) fun a hF => ?_
  refine zy hF rfl g1_6 (r_len_str hF rfl rfl Tryz.underlying9) fun a hF => ?_
  refine zy hF rfl g1_6 (zr hF rfl rfl (b_gtn _ _ _ _)) fun a hF => ?_
  refine zl hF rfl (r_pickf hF rfl rfl g1_6 rfl) fun a hF => ?_
  refine zm 1 hF rfl fun a hF => ?_
  refine ls_ask (d := 24) hF rfl (fun g1_12 => ?_) (fun g1_12 => ?_)
  ·
   have g1_12' := g1_12; try simp only [qq] at g1_12'
   omega
  have g1_12' := g1_12; try simp only [qq] at g1_12'
  refine zy hF rfl g1_12 (r_move hF rfl rfl) fun a hF => ?_
  refine zy hF rfl g1_12 (r_move hF rfl rfl) fun a hF => ?_
  refine zy hF rfl g1_12 (r_len_str hF rfl rfl Tryz.underlying9) fun a hF => ?_
  refine zy hF rfl g1_12 (r_move hF rfl rfl) fun a hF => ?_
  refine zy hF rfl g1_12 (zr hF rfl rfl (b_subn _ _ _ (by omega))) fun a hF => ?_
  refine zy hF rfl g1_12 (zr hF rfl rfl (b_gtn _ _ _ _)) fun a hF => ?_
  refine zl hF rfl (r_pickf hF rfl rfl g1_12 rfl) fun a hF => ?_
  refine c_n ?_
  replace hF := hF.sel [0, 1, 2, 3, 31]
  simp only [ss, Nat.reduceBEq] at hF
  refine c_if hF rfl (fun h31 => ?_) (fun h31 => ?_)
  ·
   try simp only [qq] at h31
   omega
  try simp only [qq] at h31
  refine wp_skip ?_
  refine k1 ?_
  refine c_sr fun ops => ?_
  refine zm 3 hF rfl fun a hF => ?_
  refine zb hF rfl rfl rfl (b_addn _ _ _ (by omega)) fun a hF => ?_
  refine zl hF rfl (r_slicetn hF _ rfl rfl Tryz.underlying9 ⟨_, rfl⟩ (by omega)) fun a hF => ?_
  refine zm 2 hF rfl fun a hF => ?_
  refine zc hF rfl rfl fn76 (read_spec (s.take (at' + n)) at' kind false (by omega) (by omega) _ (hG.ext hH.below).errs) ?_
  rintro _ w ⟨sv, B, rfl, hB, hS⟩ a hF
  replace hH := hH.join hB
  refine zm 5 hF rfl fun a hF => ?_
  refine c_n ?_
  replace hF := hF.sel [10, 11]
  simp only [ss, Nat.reduceBEq] at hF
  refine c_seq fun Q2 k2 t2 => ?_
  refine c_sr fun ops => ?_
  refine zm 1 hF rfl fun a hF => ?_
  refine zb hF rfl rfl rfl (b_nen _ _ _ 0) fun a hF => ?_
  refine c_n ?_
  replace hF := hF.sel [10, 11, 44]
  simp only [ss, Nat.reduceBEq] at hF
  refine c_if hF rfl (fun h44 => ?_) (fun h44 => ?_)
  ·
   try simp only [qq] at h44
   refine c_sr fun ops => ?_
   refine zm 3 hF rfl fun a hF => ?_
   refine c_n ?_
   replace hF := hF.sel [8, 9]
   simp only [ss, Nat.reduceBEq] at hF
   refine wp_ret (t2.ret (hret (ret2 hF Tryz.results64 rfl rfl ?_)))
   exact ⟨by unfold rdN; rw [if_pos h44]; rfl, hH.below⟩
  try simp only [qq] at h44
  refine wp_skip ?_
  refine k2 ?_
  refine c_sr fun ops => ?_
  refine zm 1 hF rfl fun a hF => ?_
  refine zc hF rfl rfl fn82 (djoined_spec (readD (s.take (at' + n)) at' kind false).2 _ _ (hS.rsl hH fun p hp => List.mem_append_left _ hp) (by omega) (by omega)) ?_
  rintro _ w ⟨rfl, hE⟩ a hF
  replace hH := hH.ext hE
  refine zm 2 hF rfl fun a hF => ?_
  refine c_n ?_
  replace hF := hF.sel [8, 9]
  simp only [ss, Nat.reduceBEq] at hF
  refine wp_ret (hret (ret2 hF Tryz.results64 rfl rfl ?_))
  exact ⟨by unfold rdN; rw [if_neg (by simpa using h44), h44]; rfl, hH.below⟩
end Go.Proofs.YtpoebplhemimmaaGreatDoor
namespace Go.Proofs.YtpoebplhemimmaaGreatDoor
variable {Ds : List Deferred}
open Go.RowKit
set_option linter.unusedVariables false
set_option linter.unusedSimpArgs false
set_option maxHeartbeats 1000000

section
variable {P : Program} {w w0 : World} {a : Act} {N : Nat} {L : List (Nat × Value)} {H : List (Nat × Obj)}
theorem results_cct {fn : Func} {tmps : Array Value} {t u x g k : Nat} {ty tz : TypeId} {v1 v2 v3 : Value} (h : fn.results = #[.cell t ty, .cell u tz, .tmp x]) (h1 : tmps[t]? = some (.pointer (some ⟨g, 0, none⟩))) (h2 : tmps[u]? = some (.pointer (some ⟨k, 0, none⟩))) (h3 : tmps[x]? = some v3)
    (hl : (loadVar ty ⟨g, 0, none⟩).run P w = .ok v1 w) (hm : (loadVar tz ⟨k, 0, none⟩).run P w = .ok v2 w) : (results fn tmps).run P w = .ok (.tuple #[v1, v2, v3]) w := by
  simp [results, h, Array.getD_eq_getD_getElem?, h1, h2, h3, asAddr, hl, hm]
theorem retcct {fn : Func} {R : Value → World → Prop} {t u x g k i j : Nat} {ty tz : TypeId} {size bytes size2 bytes2 : Nat} {cs cs2 : Array Value} {v3 : Value} {e e2 : TypeId} {fr fr2 : Nat × Nat} (hF : Fr N L a) (hH : Hp w0 w H) (hr : fn.results = #[.cell t ty, .cell u tz, .tmp x])
    (h1 : lk L t = some (.pointer (some ⟨g, 0, none⟩))) (h2 : lk L u = some (.pointer (some ⟨k, 0, none⟩))) (h3 : lk L x = some v3)
    (ht : aggT P ty = true) (ht2 : aggT P tz = true) (hti : TI P ty size bytes) (hti2 : TI P tz size2 bytes2) (hi : H[i]? = some (g, .cells cs e fr)) (hj : H[j]? = some (k, .cells cs2 e2 fr2)) (hs : cs.size = size) (hs2 : cs2.size = size2) (h : R (.tuple #[.agg cs, .agg cs2, v3]) w) :
    bodyPost P fn (fun e w' => ∃ v, e = .returned v ∧ R v w') .ret a w := by
  have hl := run_loadVar_T (w := w) (cs := cs.toList) ht hti (by simpa using hs) (own_agg hH hi)
  have hm := run_loadVar_T (w := w) (cs := cs2.toList) ht2 hti2 (by simpa using hs2) (own_agg hH hj)
  exact bodyPost_ret (results_cct hr (hF.lk h1) (hF.lk h2) (hF.lk h3) hl hm) hF.defers ⟨_, rfl, by simpa using h⟩
theorem b_shr11 (t : TypeId) (n : Nat) : (binOp .shr t (.int .u16 (n : Int)) (.int .u64 11)).run P w = .ok (.int .u16 ((n / 2048 : Nat) : Int)) w := by simp [go_sem]
theorem b_and15 (t : TypeId) (n : Nat) (h : n < 65536) : (binOp .and t (.int .u16 (n : Int)) (.int .u16 15)).run P w = .ok (.int .u16 ((n % 16 : Nat) : Int)) w := by
  have h1 : bits .and .u16 (n : Int) 15 = ((n % 16 : Nat) : Int) := by
    have := u16_and_nat n 15 h (by omega)
    rw [show n &&& 15 = n % 16 from Nat.and_two_pow_sub_one_eq_mod n 4] at this
    exact this
  simp only [binOp]
  simp [go_sem]
  simpa using h1
theorem b_and1 (t : TypeId) (n : Nat) (h : n < 65536) : (binOp .and t (.int .u16 (n : Int)) (.int .u16 1)).run P w = .ok (.int .u16 ((n % 2 : Nat) : Int)) w := by
  have h1 : bits .and .u16 (n : Int) 1 = ((n % 2 : Nat) : Int) := by
    have := u16_and_nat n 1 h (by omega)
    rw [show n &&& 1 = n % 2 from Nat.and_two_pow_sub_one_eq_mod n 1] at this
    exact this
  simp only [binOp]
  simp [go_sem]
  simpa using h1
theorem b_shrk (t : TypeId) (n k : Nat) (hk : k < 16) : (binOp .shr t (.int .u16 (n : Int)) (.int .i64 (k : Int))).run P w = .ok (.int .u16 ((n / 2 ^ k : Nat) : Int)) w := by
  rcases (show k = 0 ∨ k = 1 ∨ k = 2 ∨ k = 3 ∨ k = 4 ∨ k = 5 ∨ k = 6 ∨ k = 7 ∨ k = 8 ∨ k = 9 ∨ k = 10 ∨ k = 11 ∨ k = 12 ∨ k = 13 ∨ k = 14 ∨ k = 15 by omega) with rfl | rfl | rfl | rfl | rfl | rfl | rfl | rfl | rfl | rfl | rfl | rfl | rfl | rfl | rfl | rfl <;> simp [go_sem]
end
/-- A header of flags, as far as it has been read. -/
def hdI (f i : Nat) : Hd := ⟨0, if 0 < i then bitAt f 32768 else false, f / 2048 % 16, if 1 < i then bitAt f 1024 else false, if 2 < i then bitAt f 512 else false, if 3 < i then bitAt f 256 else false, if 4 < i then bitAt f 128 else false,
  if 5 < i then bitAt f 64 else false, if 6 < i then bitAt f 32 else false, if 7 < i then bitAt f 16 else false, f % 16⟩
theorem hdI_step {f i : Nat} (hi : i < 8) : ∃ off k, offL[i]? = some off ∧ bitsL[i]? = some k ∧ k < 16 ∧ off < 11 ∧ (hdV (hdI f i)).toArray.setIfInBounds off (.bool (decide (f / 2 ^ k % 2 = 1))) = (hdV (hdI f (i + 1))).toArray := by
  rcases (show i = 0 ∨ i = 1 ∨ i = 2 ∨ i = 3 ∨ i = 4 ∨ i = 5 ∨ i = 6 ∨ i = 7 by omega) with rfl | rfl | rfl | rfl | rfl | rfl | rfl | rfl <;> exact ⟨_, _, rfl, rfl, by decide, by decide, rfl⟩
theorem hdI_end (f : Nat) : hdI f 8 = fromN 0 f := rfl
theorem from_spec (f : Nat) (hf : f < 65536) (w0 : World) (hG : GX w0) : Rets Tryz.prog 55 [.int .u16 (f : Nat)] w0 fun v w' => v = .agg (hdV (fromN 0 f)).toArray ∧ Ext w0 w' := by
  have hH := Hp.refl w0
  refine rets_start Tryz.func55 rfl Tryz.ntmps55 rfl fun a Q0 hF hret hend => ?_
  simp only [argsFrom, Nat.zero_add, Nat.reduceAdd] at hF
  refine c_sr fun ops => ?_
  refine ls_alloc hF hH rfl rfl rfl rfl zv30 ?_
  intro a w g0_0 hH hE hF
  refine c_n ?_
  replace hF := hF.sel [0, 2]
  simp only [ss, Nat.reduceBEq] at hF
  refine c_sr fun ops => ?_
  refine zm 1 hF rfl fun a hF => ?_
  refine zb hF rfl rfl rfl (b_shr11 _ f) fun a hF => ?_
  refine zb hF rfl rfl rfl (b_and15 _ _ (by omega)) fun a hF => ?_
  refine zl hF rfl (r_convin hF rfl rfl (by rw [Tryz.underlying28]; rfl) Tryz.underlying5 (0) 255 mn_u8 mx_u8 (by omega)) fun a hF => ?_
  refine zm 1 hF rfl fun a hF => ?_
  refine zb hF rfl rfl rfl (b_and15 _ f hf) fun a hF => ?_
  refine zl hF rfl (r_convin hF rfl rfl (by rw [Tryz.underlying28]; rfl) Tryz.underlying5 (0) 255 mn_u8 mx_u8 (by omega)) fun a hF => ?_
  refine zl hF rfl (r_build hF rfl rfl (bd30_2_10 _ _ _ (rfl) (rfl))) fun a hF => ?_
  refine ls_alloc hF hH rfl rfl rfl rfl zv30 ?_
  intro a w g1_8 hH hE hF
  refine ls_storeagg 0 hF hH rfl rfl rfl rfl rfl ti30 rfl (rfl) (rfl) (by simp [Value.oneCell']) ?_
  intro w hH
  refine c_n ?_
  replace hF := hF.sel [0, 2, 3]
  simp only [ss, Nat.reduceBEq] at hF
  replace hH : Hp w0 w ([(g1_8, .cells (hdV (hdI f 0)).toArray 30 (0, 0))] ++ [(g0_0, .cells (hdV ⟨0, false, 0, false, false, false, false, false, false, false, 0⟩).toArray 30 (0, 0))]) := hH
  refine c_seq fun Q1 k1 t1 => ?_
  refine c_sr fun ops => ?_
  refine zc hF rfl rfl fn71 (parts_hspec g1_8 _) ?_
  rintro _ w ⟨rfl, hE⟩ a hF
  replace hH := hH.ext hE
  refine zm 1 hF rfl fun a hF => ?_
  refine c_n ?_
  replace hF := hF.sel [0, 2, 3, 14, 15]
  simp only [ss, Nat.reduceBEq] at hF
  refine c_block fun Q2 t2 => ?_
  refine c_loop (fun n a w => ∃ i, n = 8 - i ∧ i ≤ 8 ∧ Fr 30 [(0, .int .u16 (f : Nat)), (2, ptr g0_0), (3, ptr g1_8), (14, .agg #[ptrO g1_8 1, ptrO g1_8 3, ptrO g1_8 4, ptrO g1_8 5, ptrO g1_8 6, ptrO g1_8 7, ptrO g1_8 8, ptrO g1_8 9]), (15, .int .i64 (i : Nat))] a ∧ Hp w0 w ([(g1_8, .cells (hdV (hdI f i)).toArray 30 (0, 0))] ++ [(g0_0, .cells (hdV ⟨0, false, 0, false, false, false, false, false, false, false, 0⟩).toArray 30 (0, 0))])) ?_ ?_
  ·
   exact ⟨_, 0, rfl, Nat.zero_le _, hF.keep [0, 2, 3, 14, 15] rfl, hH⟩
  clear hH hF
  intro n a w hI Q3 k3 t3
  obtain ⟨i, hm, hi, hF, hH⟩ := hI
  refine c_sr fun ops => ?_
  refine zb hF rfl rfl rfl (b_ltn _ _ _ 8) fun a hF => ?_
  refine c_n ?_
  refine c_seq fun Q4 k4 t4 => ?_
  refine c_fi hF rfl (fun h16 => ?_) (fun h16 => ?_)
  ·
   try simp only [qq] at h16
   obtain rfl : i = 8 := by omega
   rw [hdI_end] at hH
   refine wp_exit (t4.exit (t3.exit (t2.here (?_))))
   refine k1 ?_
   refine c_sr fun ops => ?_
   refine zl hF rfl (r_loadagg hF rfl rfl Tryz.underlying30 ti30 rfl (own_agg (i := 0) (cs := (hdV (fromN 0 f)).toArray) hH rfl)) fun a hF => ?_
   refine ls_storeagg 1 hF hH rfl rfl rfl rfl rfl ti30 rfl (rfl) (rfl) (by simp [hdV, Value.oneCell']) ?_
   intro w hH
   refine c_n ?_
   replace hF := hF.sel [2]
   simp only [ss, Nat.reduceBEq] at hF
   refine wp_ret (hret (retc1 (fn := Tryz.f55) (t := 2) (i := 1) hF hH Tryz.results55 rfl (by kernel_rfl) ti30 rfl rfl ?_))
   exact ⟨rfl, hH.below⟩
  try simp only [qq] at h16
  obtain ⟨off, k, ho1, ho3, hk, hoff, hset⟩ := hdI_step (f := f) h16
  have hpt : (#[ptrO g1_8 1, ptrO g1_8 3, ptrO g1_8 4, ptrO g1_8 5, ptrO g1_8 6, ptrO g1_8 7, ptrO g1_8 8, ptrO g1_8 9] : Array Value)[i]? = some (ptrO g1_8 off) := by
    have : (#[ptrO g1_8 1, ptrO g1_8 3, ptrO g1_8 4, ptrO g1_8 5, ptrO g1_8 6, ptrO g1_8 7, ptrO g1_8 8, ptrO g1_8 9] : Array Value) = (offL.map (ptrO g1_8)).toArray := rfl
    rw [this, List.getElem?_toArray, List.getElem?_map, ho1]; rfl
  have hfk : f / 2 ^ k < 65536 := Nat.lt_of_le_of_lt (Nat.div_le_self _ _) hf
  refine wp_skip ?_
  refine k4 ?_
  refine c_seq fun Q5 k5 t5 => ?_
  refine c_block fun Q6 t6 => ?_
  refine c_sr fun ops => ?_
  refine zm 1 hF rfl fun a hF => ?_
  refine zl hF rfl (r_indexarr hF _ rfl rfl rfl Tryz.underlying138 ti137 (by unfold flat; rw [Tryz.underlying137]) (by omega) (hpt)) fun a hF => ?_
  refine zm 2 hF rfl fun a hF => ?_
  refine c_n ?_
  refine c_reg fun ops => ?_
  refine zm 3 hF rfl fun a hF => ?_
  refine zl hF rfl (r_ixarr hF _ rfl rfl rfl Tryz.underlying141 ti3 (by omega)) fun a hF => ?_
  refine zl hF rfl (r_load hF rfl rfl fl3 (by rw [Nat.zero_add]; exact (hG.ext hH.below).bits i k ho3)) fun a hF => ?_
  refine zb hF rfl rfl rfl (b_shrk _ f k hk) fun a hF => ?_
  refine zb hF rfl rfl rfl (b_and1 _ _ hfk) fun a hF => ?_
  refine zb hF rfl rfl rfl (b_eqn _ _ _ 1) fun a hF => ?_
  refine zl hF rfl (r_nilcheck hF rfl rfl) fun a hF => ?_
  refine ls_store 0 hF hH rfl rfl rfl rfl rfl fl4 ti4 rfl ((show off < 11 from hoff)) (by simp [noFreeze]) (rfl) ?_
  intro w hH
  refine wpList_nil ?_
  refine t6.norm ?_
  refine k5 ?_
  refine c_reg fun ops => ?_
  refine zb hF rfl rfl rfl (b_addn _ _ 1 (by omega)) fun a hF => ?_
  refine zm 1 hF rfl fun a hF => ?_
  refine wpList_nil ?_
  refine k3 ?_
  refine ⟨8 - (i + 1), by omega, i + 1, rfl, by omega, hF.keep [0, 2, 3, 14, 15] rfl, ?_⟩
  rw [← hset]; exact hH
def zHd : Hd := ⟨0, false, 0, false, false, false, false, false, false, false, 0⟩
def cntL (s : Bs) : List Nat := [num2 s 4, num2 s 6, num2 s 8, num2 s 10]
/-- The counts, as far as they have been read. -/
def cntI (s : Bs) (i : Nat) : List Nat := [if 0 < i then num2 s 4 else 0, if 1 < i then num2 s 6 else 0, if 2 < i then num2 s 8 else 0, if 3 < i then num2 s 10 else 0]
abbrev cntIV (s : Bs) (i : Nat) : Array Value := ((cntI s i).map fun n => Value.int .i64 (n : Nat)).toArray
theorem cntI_step {s : Bs} {i : Nat} (hi : i < 4) : (cntIV s i).setIfInBounds (0 + i) (.int .i64 (num2 s (4 + 2 * i) : Nat)) = cntIV s (i + 1) := by
  rcases (show i = 0 ∨ i = 1 ∨ i = 2 ∨ i = 3 by omega) with rfl | rfl | rfl | rfl <;> rfl
theorem cntI_end (s : Bs) : cntI s 4 = cntL s := rfl
theorem hread_spec (s : Bs) (hs : s.length < 1000000) (w0 : World) (hG : GX w0) : Rets Tryz.prog 20 [.string (mk s)] w0
    fun v w' => v = (if s.length < 12 then .tuple #[.agg (hdV zHd).toArray, .agg #[.int .i64 0, .int .i64 0, .int .i64 0, .int .i64 0], .int .i64 (4 : Nat)] else .tuple #[.agg (hdV (fromN (num2 s 0) (num2 s 2))).toArray, .agg ((cntL s).map fun n => Value.int .i64 (n : Nat)).toArray, .int .i64 (0 : Nat)]) ∧ Ext w0 w' := by
  have hH := Hp.refl w0
  refine rets_start Tryz.func20 rfl Tryz.ntmps20 rfl fun a Q0 hF hret hend => ?_
  simp only [argsFrom, Nat.zero_add, Nat.reduceAdd] at hF
  refine c_sr fun ops => ?_
  refine ls_alloc hF hH rfl rfl rfl rfl zv30 ?_
  intro a w g0_0 hH hE hF
  refine ls_alloc hF hH rfl rfl rfl rfl zv60 ?_
  intro a w g0_1 hH hE hF
  refine zm 1 hF rfl fun a hF => ?_
  refine c_n ?_
  replace hF := hF.sel [0, 2, 3]
  simp only [ss, Nat.reduceBEq] at hF
  replace hH : Hp w0 w ([(g0_1, .cells #[.int .i64 0, .int .i64 0, .int .i64 0, .int .i64 0] 60 (0, 0))] ++ [(g0_0, .cells (hdV zHd).toArray 30 (0, 0))]) := hH
  refine c_seq fun Q1 k1 t1 => ?_
  refine c_sr fun ops => ?_
  refine zm 1 hF rfl fun a hF => ?_
  refine zl hF rfl (r_len_str hF rfl rfl Tryz.underlying9) fun a hF => ?_
  refine zb hF rfl rfl rfl (b_ltn _ _ _ 12) fun a hF => ?_
  refine c_n ?_
  replace hF := hF.sel [0, 2, 3, 17]
  simp only [ss, Nat.reduceBEq] at hF
  refine c_if hF rfl (fun h17 => ?_) (fun h17 => ?_)
  ·
   try simp only [qq] at h17
   refine c_sr fun ops => ?_
   refine zl hF rfl (r_build hF rfl rfl (bd30 _)) fun a hF => ?_
   refine zl hF rfl (r_build hF rfl rfl (bd60 _)) fun a hF => ?_
   refine ls_storeagg 1 hF hH rfl rfl rfl rfl rfl ti30 rfl (rfl) (rfl) (by simp [Value.oneCell']) ?_
   intro w hH
   refine ls_storeagg 0 hF hH rfl rfl rfl rfl rfl ti60 rfl (rfl) (rfl) (by simp [Value.oneCell']) ?_
   intro w hH
   refine zm 1 hF rfl fun a hF => ?_
   refine c_n ?_
   replace hF := hF.sel [2, 3, 4]
   simp only [ss, Nat.reduceBEq] at hF
   refine wp_ret (t1.ret (hret (retcct (fn := Tryz.f20) (t := 2) (u := 3) (x := 4) (i := 1) (j := 0) hF hH Tryz.results20 rfl rfl rfl (by kernel_rfl) (by kernel_rfl) ti30 ti60 rfl rfl rfl rfl ?_)))
   exact ⟨by rw [if_pos h17]; rfl, hH.below⟩
  try simp only [qq] at h17
  refine wp_skip ?_
  refine k1 ?_
  refine c_sr fun ops => ?_
  refine zm 1 hF rfl fun a hF => ?_
  refine zc hF rfl rfl fn22 (new_spec s _) ?_
  rintro _ w ⟨gc, rfl, hC⟩ a hF
  replace hH := hH.join hC
  refine zm 1 hF rfl fun a hF => ?_
  refine c_n ?_
  replace hF := hF.sel [2, 3, 5]
  simp only [ss, Nat.reduceBEq] at hF
  have hn2 := num2_lt s 2
  refine c_sr fun ops => ?_
  refine zm 1 hF rfl fun a hF => ?_
  refine zc hF rfl rfl fn54 (two_cspec hG.errs hH (Nat.zero_le _) hs) ?_
  rintro _ w ⟨rfl, hH⟩ a hF
  rw [if_neg (by omega), if_neg (by omega)] at hF; rw [if_neg (by omega)] at hH
  refine zm 5 hF rfl fun a hF => ?_
  refine c_n ?_
  replace hF := hF.sel [2, 3, 5, 6]
  simp only [ss, Nat.reduceBEq] at hF
  refine c_sr fun ops => ?_
  refine zm 1 hF rfl fun a hF => ?_
  refine zc hF rfl rfl fn54 (two_cspec hG.errs hH (by omega) hs) ?_
  rintro _ w ⟨rfl, hH⟩ a hF
  rw [if_neg (by omega), if_neg (by omega)] at hF; rw [if_neg (by omega)] at hH
  refine zm 5 hF rfl fun a hF => ?_
  refine c_n ?_
  replace hF := hF.sel [2, 3, 5, 6, 8]
  simp only [ss, Nat.reduceBEq] at hF
  refine c_sr fun ops => ?_
  refine zm 1 hF rfl fun a hF => ?_
  refine zc hF rfl rfl fn55 (from_spec (num2 s 2) hn2 _ (hG.ext hH.below)) ?_
  rintro _ w ⟨rfl, hE⟩ a hF
  replace hH := hH.ext hE
  refine ls_alloc hF hH rfl rfl rfl rfl zv30 ?_
  intro a w g6_2 hH hE hF
  refine ls_storeagg 0 hF hH rfl rfl rfl rfl rfl ti30 rfl (rfl) (rfl) (by simp [hdV, Value.oneCell']) ?_
  intro w hH
  refine c_n ?_
  replace hF := hF.sel [2, 3, 5, 6, 10]
  simp only [ss, Nat.reduceBEq] at hF
  refine c_sr fun ops => ?_
  refine zm 1 hF rfl fun a hF => ?_
  refine zl hF rfl (r_fieldaddr0 hF rfl rfl fd30_0) fun a hF => ?_
  refine ls_store 0 hF hH rfl rfl rfl rfl rfl fl28 ti28 rfl ((show 0 < 11 by omega)) (by simp [noFreeze]) (rfl) ?_
  intro w hH
  refine c_n ?_
  replace hF := hF.sel [2, 3, 5, 10]
  simp only [ss, Nat.reduceBEq] at hF
  refine c_sr fun ops => ?_
  refine ls_alloc hF hH rfl rfl rfl rfl zv60 ?_
  intro a w g8_0 hH hE hF
  refine c_n ?_
  replace hF := hF.sel [2, 3, 5, 10, 11]
  simp only [ss, Nat.reduceBEq] at hF
  replace hH : Hp w0 w ([(gc, curO s 4)] ++ ([(g8_0, .cells #[.int .i64 0, .int .i64 0, .int .i64 0, .int .i64 0] 60 (0, 0))] ++ ([(g6_2, .cells (hdV (fromN (num2 s 0) (num2 s 2))).toArray 30 (0, 0))] ++ ([(g0_1, .cells #[.int .i64 0, .int .i64 0, .int .i64 0, .int .i64 0] 60 (0, 0))] ++ [(g0_0, .cells (hdV zHd).toArray 30 (0, 0))])))) :=
    (show Hp w0 w ([(g8_0, .cells #[.int .i64 0, .int .i64 0, .int .i64 0, .int .i64 0] 60 (0, 0))] ++ ([(g6_2, .cells (hdV (fromN (num2 s 0) (num2 s 2))).toArray 30 (0, 0))] ++ ([(gc, curO s 4)] ++ ([(g0_1, .cells #[.int .i64 0, .int .i64 0, .int .i64 0, .int .i64 0] 60 (0, 0))] ++ [(g0_0, .cells (hdV zHd).toArray 30 (0, 0))])))) from hH).pick (R := []) (fun z => by simp only [List.count_append, List.count_nil]; omega)
  refine c_seq fun Q2 k2 t2 => ?_
  refine c_sr fun ops => ?_
  refine zm 1 hF rfl fun a hF => ?_
  refine c_n ?_
  replace hF := hF.sel [2, 3, 5, 10, 11, 36]
  simp only [ss, Nat.reduceBEq] at hF
  refine c_block fun Q3 t3 => ?_
  refine c_loop (fun n a w => ∃ i, n = 4 - i ∧ i ≤ 4 ∧ Fr 51 [(2, ptr g0_0), (3, ptr g0_1), (5, ptr gc), (10, ptr g6_2), (11, ptr g8_0), (36, .int .i64 (i : Nat))] a ∧ Hp w0 w ([(gc, curO s (4 + 2 * i))] ++ ([(g8_0, .cells (cntIV s i) 60 (0, 0))] ++ ([(g6_2, .cells (hdV (fromN (num2 s 0) (num2 s 2))).toArray 30 (0, 0))] ++ ([(g0_1, .cells #[.int .i64 0, .int .i64 0, .int .i64 0, .int .i64 0] 60 (0, 0))] ++ [(g0_0, .cells (hdV zHd).toArray 30 (0, 0))]))))) ?_ ?_
  ·
   exact ⟨_, 0, rfl, Nat.zero_le _, hF.keep [2, 3, 5, 10, 11, 36] rfl, hH⟩
  clear hH hF
  intro n a w hI Q4 k4 t4
  obtain ⟨i, hm, hi, hF, hH⟩ := hI
  refine c_sr fun ops => ?_
  refine zb hF rfl rfl rfl (b_ltn _ _ _ 4) fun a hF => ?_
  refine c_n ?_
  refine c_seq fun Q5 k5 t5 => ?_
  refine c_fi hF rfl (fun h37 => ?_) (fun h37 => ?_)
  ·
   try simp only [qq] at h37
   obtain rfl : i = 4 := by omega
   refine wp_exit (t5.exit (t4.exit (t3.here (?_))))
   refine k2 ?_
   refine c_seq fun Q8 k8 t8 => ?_
   refine c_planF hF [] [] [.p 0, .p 1, .o 2] [] [3, 4] [0, 1, 2] (fun w => (∀ j u, (cntIV s 4).toList[j]? = some u → w.cell? ⟨g8_0, 0 + j, none⟩ = some u) ∧ (∀ j u, (hdV (fromN (num2 s 0) (num2 s 2))).toArray.toList[j]? = some u → w.cell? ⟨g6_2, 0 + j, none⟩ = some u)) (by kernel_rfl) (by kernel_rfl) rfl ?_
   refine pl_start fun w hE => ?_
   replace hH := hH.ext hE
   refine ⟨⟨own_agg (i := 1) hH rfl, own_agg (i := 2) hH rfl⟩, ?_⟩
   refine pp hF rfl rfl rfl rfl (fun w hH => r_loadagg hF rfl rfl Tryz.underlying30 ti30 rfl (hH.2)) fun a hF => ?_
   refine pp hF rfl rfl rfl rfl (fun w hH => r_loadT hF rfl rfl (by kernel_rfl) ti60 rfl (hH.1)) fun a hF => ?_
   refine po ?_
   refine ls_storeagg 4 hF hH rfl rfl rfl rfl rfl ti30 rfl (rfl) (rfl) (by simp [hdV, Value.oneCell']) ?_
   intro w hH
   refine wpList_nil (po_end (⟨own_agg (i := 1) hH rfl, own_agg (i := 2) hH rfl⟩) ?_)
   refine pt ?_
   refine tt ?_
   refine ls_storeagg 3 hF hH rfl rfl rfl rfl rfl ti60 rfl (rfl) (rfl) (by simp [Value.oneCell']) ?_
   intro w hH
   refine zm 1 hF rfl fun a hF => ?_
   refine pt_end ?_
   replace hF := hF.sel [2, 3, 4]
   simp only [ss, Nat.reduceBEq] at hF
   refine k8 ?_
   refine wp_ret (hret (retcct (fn := Tryz.f20) (t := 2) (u := 3) (x := 4) (i := 4) (j := 3) hF hH Tryz.results20 rfl rfl rfl (by kernel_rfl) (by kernel_rfl) ti30 ti60 rfl rfl rfl rfl ?_))
   exact ⟨by rw [if_neg (by omega)]; rfl, hH.below⟩
  try simp only [qq] at h37
  refine wp_skip ?_
  refine k5 ?_
  refine c_seq fun Q6 k6 t6 => ?_
  refine c_block fun Q7 t7 => ?_
  refine c_sr fun ops => ?_
  refine zm 2 hF rfl fun a hF => ?_
  refine c_n ?_
  refine c_sr fun ops => ?_
  refine zm 1 hF rfl fun a hF => ?_
  refine zc hF rfl rfl fn54 (two_cspec hG.errs hH (by omega) hs) ?_
  rintro _ w ⟨rfl, hH⟩ a hF
  rw [if_neg (by omega), if_neg (by omega)] at hF; rw [if_neg (by omega)] at hH; have hn2 := num2_lt s (4 + 2 * i)
  refine zm 5 hF rfl fun a hF => ?_
  refine c_n ?_
  refine c_reg fun ops => ?_
  refine zm 2 hF rfl fun a hF => ?_
  refine zl hF rfl (r_convin hF rfl rfl (by rw [Tryz.underlying28]; rfl) Tryz.underlying3 (-9223372036854775808) 9223372036854775807 mn_i64 mx_i64 (by omega)) fun a hF => ?_
  refine zl hF rfl (r_ixarr hF _ rfl rfl rfl Tryz.underlying60 ti3 (by omega)) fun a hF => ?_
  refine ls_store 1 hF hH rfl rfl rfl rfl rfl fl3 ti3 rfl ((show 0 + i < 4 by omega)) (by simp [noFreeze]) (rfl) ?_
  intro w hH
  refine wpList_nil ?_
  refine t7.norm ?_
  refine k6 ?_
  refine c_reg fun ops => ?_
  refine zb hF rfl rfl rfl (b_addn _ _ 1 (by omega)) fun a hF => ?_
  refine zm 1 hF rfl fun a hF => ?_
  refine wpList_nil ?_
  refine k4 ?_
  refine ⟨4 - (i + 1), by omega, i + 1, rfl, by omega, hF.keep [2, 3, 5, 10, 11, 36] rfl, ?_⟩
  rw [← cntI_step (by omega), show 4 + 2 * (i + 1) = 4 + 2 * i + 2 by omega]; exact hH
end Go.Proofs.YtpoebplhemimmaaGreatDoor
