/-
  The walks of package rdata: reading data by their types, may they be, folding. Nothing is claimed here.
-/
import Derived.Test.YtpoebplhemimmaaGreatDoorPart
namespace Go.Proofs.YtpoebplhemimmaaGreatDoor
variable {Ds : List Deferred}
open Go.RowKit
set_option linter.unusedVariables false
set_option linter.unusedSimpArgs false
set_option maxHeartbeats 1000000

/-- A function value that is a part; or none. -/
def PartV (w : World) (f : Value) : Option Part → Prop
  | none => f = .nilFunc
  | some (.fixed n) => ∃ pb, f = .func (.func 108) #[] #[ptr pb] ∧ w.cell? ⟨pb, 0, none⟩ = some (.int .i64 n)
  | some .named => f = .func (.func 109) #[] #[]
  | some .texts => f = .func (.func 110) #[] #[]
  | some .rest => f = .func (.func 111) #[] #[]
theorem PartV.ext {w w' : World} {f : Value} {x : Option Part} (h : PartV w f x) (he : Ext w w') : PartV w' f x := by
  cases x with
  | none => exact h
  | some x => cases x with
    | fixed n => obtain ⟨pb, h1, h2⟩ := h; exact ⟨pb, h1, he.cell h2⟩
    | named => exact h
    | texts => exact h
    | rest => exact h

theorem mkfixed_spec (n : Nat) (w0 : World) : Rets Tryz.prog 97 [.int .i64 n] w0 fun v w' => ∃ pb, v = .func (.func 108) #[] #[ptr pb] ∧ Hp w0 w' [(pb, .cells #[.int .i64 n] 3 (0, 0))] := by
  have hH := Hp.refl w0
  refine rets_start Tryz.func97 rfl Tryz.ntmps97 rfl fun a Q0 hF hret hend => ?_
  simp only [argsFrom, Nat.zero_add, Nat.reduceAdd] at hF
  refine c_sr fun ops => ?_
  refine ls_box hF hH rfl rfl rfl rfl rfl ?_
  intro a w g0_0 hH hE hF
  refine zm 1 hF rfl fun a hF => ?_
  refine c_n ?_
  replace hF := hF.sel [1]
  simp only [ss, Nat.reduceBEq] at hF
  refine c_sr fun ops => ?_
  refine zl hF rfl (r_makefunc hF rfl rfl) fun a hF => ?_
  refine zm 1 hF rfl fun a hF => ?_
  refine c_n ?_
  replace hF := hF.sel [2]
  simp only [ss, Nat.reduceBEq] at hF
  refine wp_ret (hret (ret1 hF Tryz.results97 rfl ?_))
  exact ⟨_, rfl, hH⟩
theorem mknamed_spec (w0 : World) : Rets Tryz.prog 98 [] w0 fun v w' => v = .func (.func 109) #[] #[] ∧ Ext w0 w' := by
  have hH := Hp.refl w0
  refine rets_start Tryz.func98 rfl Tryz.ntmps98 rfl fun a Q0 hF hret hend => ?_
  simp only [argsFrom, Nat.zero_add, Nat.reduceAdd] at hF
  refine c_sr fun ops => ?_
  refine zm 1 hF rfl fun a hF => ?_
  refine c_n ?_
  replace hF := hF.sel []
  simp only [ss, Nat.reduceBEq] at hF
  refine c_sr fun ops => ?_
  refine zm 1 hF rfl fun a hF => ?_
  refine c_n ?_
  replace hF := hF.sel [0]
  simp only [ss, Nat.reduceBEq] at hF
  refine wp_ret (hret (ret1 hF Tryz.results98 rfl ?_))
  exact ⟨rfl, hH.below⟩
theorem mktexts_spec (w0 : World) : Rets Tryz.prog 99 [] w0 fun v w' => v = .func (.func 110) #[] #[] ∧ Ext w0 w' := by
  have hH := Hp.refl w0
  refine rets_start Tryz.func99 rfl Tryz.ntmps99 rfl fun a Q0 hF hret hend => ?_
  simp only [argsFrom, Nat.zero_add, Nat.reduceAdd] at hF
  refine c_sr fun ops => ?_
  refine zm 1 hF rfl fun a hF => ?_
  refine c_n ?_
  replace hF := hF.sel []
  simp only [ss, Nat.reduceBEq] at hF
  refine c_sr fun ops => ?_
  refine zm 1 hF rfl fun a hF => ?_
  refine c_n ?_
  replace hF := hF.sel [0]
  simp only [ss, Nat.reduceBEq] at hF
  refine wp_ret (hret (ret1 hF Tryz.results99 rfl ?_))
  exact ⟨rfl, hH.below⟩
theorem mkrest_spec (w0 : World) : Rets Tryz.prog 100 [] w0 fun v w' => v = .func (.func 111) #[] #[] ∧ Ext w0 w' := by
  have hH := Hp.refl w0
  refine rets_start Tryz.func100 rfl Tryz.ntmps100 rfl fun a Q0 hF hret hend => ?_
  simp only [argsFrom, Nat.zero_add, Nat.reduceAdd] at hF
  refine c_sr fun ops => ?_
  refine zm 1 hF rfl fun a hF => ?_
  refine c_n ?_
  replace hF := hF.sel []
  simp only [ss, Nat.reduceBEq] at hF
  refine c_sr fun ops => ?_
  refine zm 1 hF rfl fun a hF => ?_
  refine c_n ?_
  replace hF := hF.sel [0]
  simp only [ss, Nat.reduceBEq] at hF
  refine wp_ret (hret (ret1 hF Tryz.results100 rfl ?_))
  exact ⟨rfl, hH.below⟩

/-- The parts' values. -/
def PartsV (w : World) (v : Value) (k : Option (List Part)) : Prop := ∃ f0 f1 f2, v = .tuple #[.agg #[f0, f1, f2], .bool k.isSome] ∧ f0.oneCell' = true ∧ f1.oneCell' = true ∧ f2.oneCell' = true ∧ ∀ l, k = some l → l.length ≤ 3 ∧ PartV w f0 l[0]? ∧ PartV w f1 l[1]? ∧ PartV w f2 l[2]?

theorem parts_spec (kind : Nat) (w0 : World) : Rets Tryz.prog 91 [.int .u16 kind] w0 fun v w' => PartsV w' v (partsOf kind) ∧ Ext w0 w' := by
  have hH := Hp.refl w0
  refine rets_start Tryz.func91 rfl Tryz.ntmps91 rfl fun a Q0 hF hret hend => ?_
  simp only [argsFrom, Nat.zero_add, Nat.reduceAdd] at hF
  refine c_sr fun ops => ?_
  refine ls_alloc hF hH rfl rfl rfl rfl zv175 ?_
  intro a w g0_0 hH hE hF
  refine zm 1 hF rfl fun a hF => ?_
  refine c_n ?_
  replace hF := hF.sel [0, 2]
  simp only [ss, Nat.reduceBEq] at hF
  refine c_seq fun Q1 k1 t1 => ?_
  refine c_sr fun ops => ?_
  refine zm 1 hF rfl fun a hF => ?_
  refine c_n ?_
  replace hF := hF.sel [2, 4]
  simp only [ss, Nat.reduceBEq] at hF
  refine c_block fun Q2 t2 => ?_
  refine c_sr fun ops => ?_
  refine zb hF rfl rfl rfl (b_eqn _ _ _ 1) fun a hF => ?_
  refine zm 1 hF rfl fun a hF => ?_
  refine c_n ?_
  replace hF := hF.sel [2, 4, 5]
  simp only [ss, Nat.reduceBEq] at hF
  refine c_if hF rfl (fun h5 => ?_) (fun h5 => ?_)
  ·
   try simp only [qq] at h5
   refine c_sr fun ops => ?_
   refine zc hF rfl rfl fn97 (mkfixed_spec 4 _) ?_
   rintro _ w ⟨pb, rfl, hB⟩ a hF
   replace hH := hH.join hB; simp only [List.cons_append, List.nil_append] at hH
   refine zl hF rfl (r_build hF rfl rfl (bd175_0 _ _ (rfl))) fun a hF => ?_
   refine ls_storeagg 1 hF hH rfl rfl rfl rfl rfl ti175 rfl (rfl) (rfl) (by intro u hu; simp only [List.mem_cons, List.not_mem_nil, or_false] at hu; rcases hu with rfl | rfl | rfl <;> rfl) ?_
   intro w hH
   refine zm 1 hF rfl fun a hF => ?_
   refine c_n ?_
   replace hF := hF.sel [2, 3]
   simp only [ss, Nat.reduceBEq] at hF
   refine wp_ret (t2.ret (t1.ret (hret (retc2 (fn := Tryz.f91) (t := 2) (u := 3) (i := 1) hF hH Tryz.results91 rfl rfl (by kernel_rfl) ti175 rfl rfl ?_))))
   have hk : partsOf kind = some [.fixed 4] := by first | (exfalso; omega) | (unfold partsOf; simp only [*, if_true, if_false]; done) | (simp [partsOf, *]; done) | (unfold partsOf; repeat' split) <;> first | rfl | omega
   refine ⟨⟨_, _, _, by rw [hk]; rfl, rfl, rfl, rfl, ?_⟩, hH.below⟩
   rw [hk]
   rintro l ⟨⟩
   exact ⟨by decide, ⟨_, rfl, own_cell (i := 0) hH rfl rfl⟩, rfl, rfl⟩
  try simp only [qq] at h5
  refine c_sr fun ops => ?_
  refine zb hF rfl rfl rfl (b_eqn _ _ _ 28) fun a hF => ?_
  refine zm 1 hF rfl fun a hF => ?_
  refine c_n ?_
  replace hF := hF.sel [2, 4, 9]
  simp only [ss, Nat.reduceBEq] at hF
  refine c_if hF rfl (fun h9 => ?_) (fun h9 => ?_)
  ·
   try simp only [qq] at h9
   refine c_sr fun ops => ?_
   refine zc hF rfl rfl fn97 (mkfixed_spec 16 _) ?_
   rintro _ w ⟨pb, rfl, hB⟩ a hF
   replace hH := hH.join hB; simp only [List.cons_append, List.nil_append] at hH
   refine zl hF rfl (r_build hF rfl rfl (bd175_0 _ _ (rfl))) fun a hF => ?_
   refine ls_storeagg 1 hF hH rfl rfl rfl rfl rfl ti175 rfl (rfl) (rfl) (by intro u hu; simp only [List.mem_cons, List.not_mem_nil, or_false] at hu; rcases hu with rfl | rfl | rfl <;> rfl) ?_
   intro w hH
   refine zm 1 hF rfl fun a hF => ?_
   refine c_n ?_
   replace hF := hF.sel [2, 3]
   simp only [ss, Nat.reduceBEq] at hF
   refine wp_ret (t2.ret (t1.ret (hret (retc2 (fn := Tryz.f91) (t := 2) (u := 3) (i := 1) hF hH Tryz.results91 rfl rfl (by kernel_rfl) ti175 rfl rfl ?_))))
   have hk : partsOf kind = some [.fixed 16] := by first | (exfalso; omega) | (unfold partsOf; simp only [*, if_true, if_false]; done) | (simp [partsOf, *]; done) | (unfold partsOf; repeat' split) <;> first | rfl | omega
   refine ⟨⟨_, _, _, by rw [hk]; rfl, rfl, rfl, rfl, ?_⟩, hH.below⟩
   rw [hk]
   rintro l ⟨⟩
   exact ⟨by decide, ⟨_, rfl, own_cell (i := 0) hH rfl rfl⟩, rfl, rfl⟩
  try simp only [qq] at h9
  refine c_seq fun Q3 k3 t3 => ?_
  refine c_sr fun ops => ?_
  refine zb hF rfl rfl rfl (b_eqn _ _ _ 2) fun a hF => ?_
  refine zm 1 hF rfl fun a hF => ?_
  refine c_n ?_
  replace hF := hF.sel [2, 4, 13]
  simp only [ss, Nat.reduceBEq] at hF
  refine c_if hF rfl (fun h13 => ?_) (fun h13 => ?_)
  ·
   try simp only [qq] at h13
   refine wp_skip ?_
   refine k3 ?_
   refine c_if hF rfl (fun h13 => ?_) (fun h13 => ?_)
   ·
    try simp only [qq] at h13
    refine c_sr fun ops => ?_
    refine zc hF rfl rfl fn98 (mknamed_spec _) ?_
    rintro _ w ⟨rfl, hE⟩ a hF
    replace hH := hH.ext hE
    refine zl hF rfl (r_build hF rfl rfl (bd175_0 _ _ (rfl))) fun a hF => ?_
    refine ls_storeagg 0 hF hH rfl rfl rfl rfl rfl ti175 rfl (rfl) (rfl) (by intro u hu; simp only [List.mem_cons, List.not_mem_nil, or_false] at hu; rcases hu with rfl | rfl | rfl <;> rfl) ?_
    intro w hH
    refine zm 1 hF rfl fun a hF => ?_
    refine c_n ?_
    replace hF := hF.sel [2, 3]
    simp only [ss, Nat.reduceBEq] at hF
    refine wp_ret (t2.ret (t1.ret (hret (retc2 (fn := Tryz.f91) (t := 2) (u := 3) (i := 0) hF hH Tryz.results91 rfl rfl (by kernel_rfl) ti175 rfl rfl ?_))))
    have hk : partsOf kind = some [.named] := by first | (exfalso; omega) | (unfold partsOf; simp only [*, if_true, if_false]; done) | (simp [partsOf, *]; done) | (unfold partsOf; repeat' split) <;> first | rfl | omega
    refine ⟨⟨_, _, _, by rw [hk]; rfl, rfl, rfl, rfl, ?_⟩, hH.below⟩
    rw [hk]
    rintro l ⟨⟩
    exact ⟨by decide, rfl, rfl, rfl⟩
   try simp only [qq] at h13
   refine c_sr fun ops => ?_
   refine zb hF rfl rfl rfl (b_eqn _ _ _ 15) fun a hF => ?_
   refine zm 1 hF rfl fun a hF => ?_
   refine c_n ?_
   replace hF := hF.sel [2, 4, 19]
   simp only [ss, Nat.reduceBEq] at hF
   refine c_if hF rfl (fun h19 => ?_) (fun h19 => ?_)
   ·
    try simp only [qq] at h19
    refine c_sr fun ops => ?_
    refine zc hF rfl rfl fn97 (mkfixed_spec 2 _) ?_
    rintro _ w ⟨pb, rfl, hB⟩ a hF
    replace hH := hH.join hB; simp only [List.cons_append, List.nil_append] at hH
    refine zc hF rfl rfl fn98 (mknamed_spec _) ?_
    rintro _ w ⟨rfl, hE⟩ a hF
    replace hH := hH.ext hE
    refine zl hF rfl (r_build hF rfl rfl (bd175_0_1 _ _ _ (rfl) (rfl))) fun a hF => ?_
    refine ls_storeagg 1 hF hH rfl rfl rfl rfl rfl ti175 rfl (rfl) (rfl) (by intro u hu; simp only [List.mem_cons, List.not_mem_nil, or_false] at hu; rcases hu with rfl | rfl | rfl <;> rfl) ?_
    intro w hH
    refine zm 1 hF rfl fun a hF => ?_
    refine c_n ?_
    replace hF := hF.sel [2, 3]
    simp only [ss, Nat.reduceBEq] at hF
    refine wp_ret (t2.ret (t1.ret (hret (retc2 (fn := Tryz.f91) (t := 2) (u := 3) (i := 1) hF hH Tryz.results91 rfl rfl (by kernel_rfl) ti175 rfl rfl ?_))))
    have hk : partsOf kind = some [.fixed 2, .named] := by first | (exfalso; omega) | (unfold partsOf; simp only [*, if_true, if_false]; done) | (simp [partsOf, *]; done) | (unfold partsOf; repeat' split) <;> first | rfl | omega
    refine ⟨⟨_, _, _, by rw [hk]; rfl, rfl, rfl, rfl, ?_⟩, hH.below⟩
    rw [hk]
    rintro l ⟨⟩
    exact ⟨by decide, ⟨_, rfl, own_cell (i := 0) hH rfl rfl⟩, rfl, rfl⟩
   try simp only [qq] at h19
   refine c_sr fun ops => ?_
   refine zb hF rfl rfl rfl (b_eqn _ _ _ 6) fun a hF => ?_
   refine zm 1 hF rfl fun a hF => ?_
   refine c_n ?_
   replace hF := hF.sel [2, 4, 24]
   simp only [ss, Nat.reduceBEq] at hF
   refine c_if hF rfl (fun h24 => ?_) (fun h24 => ?_)
   ·
    try simp only [qq] at h24
    refine c_sr fun ops => ?_
    refine zc hF rfl rfl fn98 (mknamed_spec _) ?_
    rintro _ w ⟨rfl, hE⟩ a hF
    replace hH := hH.ext hE
    refine zc hF rfl rfl fn98 (mknamed_spec _) ?_
    rintro _ w ⟨rfl, hE⟩ a hF
    replace hH := hH.ext hE
    refine zc hF rfl rfl fn97 (mkfixed_spec 20 _) ?_
    rintro _ w ⟨pb, rfl, hB⟩ a hF
    replace hH := hH.join hB; simp only [List.cons_append, List.nil_append] at hH
    refine zl hF rfl (r_build hF rfl rfl (bd175_0_1_2 _ _ _ _ (rfl) (rfl) (rfl))) fun a hF => ?_
    refine ls_storeagg 1 hF hH rfl rfl rfl rfl rfl ti175 rfl (rfl) (rfl) (by intro u hu; simp only [List.mem_cons, List.not_mem_nil, or_false] at hu; rcases hu with rfl | rfl | rfl <;> rfl) ?_
    intro w hH
    refine zm 1 hF rfl fun a hF => ?_
    refine c_n ?_
    replace hF := hF.sel [2, 3]
    simp only [ss, Nat.reduceBEq] at hF
    refine wp_ret (t2.ret (t1.ret (hret (retc2 (fn := Tryz.f91) (t := 2) (u := 3) (i := 1) hF hH Tryz.results91 rfl rfl (by kernel_rfl) ti175 rfl rfl ?_))))
    have hk : partsOf kind = some [.named, .named, .fixed 20] := by first | (exfalso; omega) | (unfold partsOf; simp only [*, if_true, if_false]; done) | (simp [partsOf, *]; done) | (unfold partsOf; repeat' split) <;> first | rfl | omega
    refine ⟨⟨_, _, _, by rw [hk]; rfl, rfl, rfl, rfl, ?_⟩, hH.below⟩
    rw [hk]
    rintro l ⟨⟩
    exact ⟨by decide, rfl, rfl, ⟨_, rfl, own_cell (i := 0) hH rfl rfl⟩⟩
   try simp only [qq] at h24
   refine c_sr fun ops => ?_
   refine zb hF rfl rfl rfl (b_eqn _ _ _ 33) fun a hF => ?_
   refine zm 1 hF rfl fun a hF => ?_
   refine c_n ?_
   replace hF := hF.sel [2, 4, 30]
   simp only [ss, Nat.reduceBEq] at hF
   refine c_if hF rfl (fun h30 => ?_) (fun h30 => ?_)
   ·
    try simp only [qq] at h30
    refine c_sr fun ops => ?_
    refine zc hF rfl rfl fn97 (mkfixed_spec 6 _) ?_
    rintro _ w ⟨pb, rfl, hB⟩ a hF
    replace hH := hH.join hB; simp only [List.cons_append, List.nil_append] at hH
    refine zc hF rfl rfl fn98 (mknamed_spec _) ?_
    rintro _ w ⟨rfl, hE⟩ a hF
    replace hH := hH.ext hE
    refine zl hF rfl (r_build hF rfl rfl (bd175_0_1 _ _ _ (rfl) (rfl))) fun a hF => ?_
    refine ls_storeagg 1 hF hH rfl rfl rfl rfl rfl ti175 rfl (rfl) (rfl) (by intro u hu; simp only [List.mem_cons, List.not_mem_nil, or_false] at hu; rcases hu with rfl | rfl | rfl <;> rfl) ?_
    intro w hH
    refine zm 1 hF rfl fun a hF => ?_
    refine c_n ?_
    replace hF := hF.sel [2, 3]
    simp only [ss, Nat.reduceBEq] at hF
    refine wp_ret (t2.ret (t1.ret (hret (retc2 (fn := Tryz.f91) (t := 2) (u := 3) (i := 1) hF hH Tryz.results91 rfl rfl (by kernel_rfl) ti175 rfl rfl ?_))))
    have hk : partsOf kind = some [.fixed 6, .named] := by first | (exfalso; omega) | (unfold partsOf; simp only [*, if_true, if_false]; done) | (simp [partsOf, *]; done) | (unfold partsOf; repeat' split) <;> first | rfl | omega
    refine ⟨⟨_, _, _, by rw [hk]; rfl, rfl, rfl, rfl, ?_⟩, hH.below⟩
    rw [hk]
    rintro l ⟨⟩
    exact ⟨by decide, ⟨_, rfl, own_cell (i := 0) hH rfl rfl⟩, rfl, rfl⟩
   try simp only [qq] at h30
   refine c_sr fun ops => ?_
   refine zb hF rfl rfl rfl (b_eqn _ _ _ 16) fun a hF => ?_
   refine zm 1 hF rfl fun a hF => ?_
   refine c_n ?_
   replace hF := hF.sel [2, 4, 35]
   simp only [ss, Nat.reduceBEq] at hF
   refine c_if hF rfl (fun h35 => ?_) (fun h35 => ?_)
   ·
    try simp only [qq] at h35
    refine c_sr fun ops => ?_
    refine zc hF rfl rfl fn99 (mktexts_spec _) ?_
    rintro _ w ⟨rfl, hE⟩ a hF
    replace hH := hH.ext hE
    refine zl hF rfl (r_build hF rfl rfl (bd175_0 _ _ (rfl))) fun a hF => ?_
    refine ls_storeagg 0 hF hH rfl rfl rfl rfl rfl ti175 rfl (rfl) (rfl) (by intro u hu; simp only [List.mem_cons, List.not_mem_nil, or_false] at hu; rcases hu with rfl | rfl | rfl <;> rfl) ?_
    intro w hH
    refine zm 1 hF rfl fun a hF => ?_
    refine c_n ?_
    replace hF := hF.sel [2, 3]
    simp only [ss, Nat.reduceBEq] at hF
    refine wp_ret (t2.ret (t1.ret (hret (retc2 (fn := Tryz.f91) (t := 2) (u := 3) (i := 0) hF hH Tryz.results91 rfl rfl (by kernel_rfl) ti175 rfl rfl ?_))))
    have hk : partsOf kind = some [.texts] := by first | (exfalso; omega) | (unfold partsOf; simp only [*, if_true, if_false]; done) | (simp [partsOf, *]; done) | (unfold partsOf; repeat' split) <;> first | rfl | omega
    refine ⟨⟨_, _, _, by rw [hk]; rfl, rfl, rfl, rfl, ?_⟩, hH.below⟩
    rw [hk]
    rintro l ⟨⟩
    exact ⟨by decide, rfl, rfl, rfl⟩
   try simp only [qq] at h35
   refine c_sr fun ops => ?_
   refine zb hF rfl rfl rfl (b_eqn _ _ _ 41) fun a hF => ?_
   refine zm 1 hF rfl fun a hF => ?_
   refine c_n ?_
   replace hF := hF.sel [2, 39]
   simp only [ss, Nat.reduceBEq] at hF
   refine c_if hF rfl (fun h39 => ?_) (fun h39 => ?_)
   ·
    try simp only [qq] at h39
    refine c_sr fun ops => ?_
    refine zl hF rfl (r_loadT hF rfl rfl (by kernel_rfl) ti175 rfl (own_agg (i := 0) hH rfl)) fun a hF => ?_
    refine ls_storeagg 0 hF hH rfl rfl rfl rfl rfl ti175 rfl (rfl) (rfl) (by intro u hu; have h : u = .nilFunc := (by simpa [cells_agg] using hu); rw [h]; rfl) ?_
    intro w hH
    refine zm 1 hF rfl fun a hF => ?_
    refine c_n ?_
    replace hF := hF.sel [2, 3]
    simp only [ss, Nat.reduceBEq] at hF
    refine wp_ret (t2.ret (t1.ret (hret (retc2 (fn := Tryz.f91) (t := 2) (u := 3) (i := 0) hF hH Tryz.results91 rfl rfl (by kernel_rfl) ti175 rfl rfl ?_))))
    have hk : partsOf kind = none := by first | (exfalso; omega) | (unfold partsOf; simp only [*, if_true, if_false]; done) | (simp [partsOf, *]; done) | (unfold partsOf; repeat' split) <;> first | rfl | omega
    exact ⟨⟨_, _, _, by rw [hk]; rfl, rfl, rfl, rfl, by rw [hk]; nofun⟩, hH.below⟩
   try simp only [qq] at h39
   refine wp_skip ?_
   refine t2.norm ?_
   refine k1 ?_
   refine c_sr fun ops => ?_
   refine zc hF rfl rfl fn100 (mkrest_spec _) ?_
   rintro _ w ⟨rfl, hE⟩ a hF
   replace hH := hH.ext hE
   refine zl hF rfl (r_build hF rfl rfl (bd175_0 _ _ (rfl))) fun a hF => ?_
   refine ls_storeagg 0 hF hH rfl rfl rfl rfl rfl ti175 rfl (rfl) (rfl) (by intro u hu; simp only [List.mem_cons, List.not_mem_nil, or_false] at hu; rcases hu with rfl | rfl | rfl <;> rfl) ?_
   intro w hH
   refine zm 1 hF rfl fun a hF => ?_
   refine c_n ?_
   replace hF := hF.sel [2, 3]
   simp only [ss, Nat.reduceBEq] at hF
   refine wp_ret (hret (retc2 (fn := Tryz.f91) (t := 2) (u := 3) (i := 0) hF hH Tryz.results91 rfl rfl (by kernel_rfl) ti175 rfl rfl ?_))
   have hk : partsOf kind = some [.rest] := by first | (exfalso; omega) | (unfold partsOf; simp only [*, if_true, if_false]; done) | (simp [partsOf, *]; done) | (unfold partsOf; repeat' split) <;> first | rfl | omega
   refine ⟨⟨_, _, _, by rw [hk]; rfl, rfl, rfl, rfl, ?_⟩, hH.below⟩
   rw [hk]
   rintro l ⟨⟩
   exact ⟨by decide, rfl, rfl, rfl⟩
  try simp only [qq] at h13
  refine c_sr fun ops => ?_
  refine zb hF rfl rfl rfl (b_eqn _ _ _ 5) fun a hF => ?_
  refine zm 1 hF rfl fun a hF => ?_
  refine c_n ?_
  replace hF := hF.sel [2, 4, 13]
  simp only [ss, Nat.reduceBEq] at hF
  refine c_if hF rfl (fun h13 => ?_) (fun h13 => ?_)
  ·
   try simp only [qq] at h13
   refine wp_skip ?_
   refine k3 ?_
   refine c_if hF rfl (fun h13 => ?_) (fun h13 => ?_)
   ·
    try simp only [qq] at h13
    refine c_sr fun ops => ?_
    refine zc hF rfl rfl fn98 (mknamed_spec _) ?_
    rintro _ w ⟨rfl, hE⟩ a hF
    replace hH := hH.ext hE
    refine zl hF rfl (r_build hF rfl rfl (bd175_0 _ _ (rfl))) fun a hF => ?_
    refine ls_storeagg 0 hF hH rfl rfl rfl rfl rfl ti175 rfl (rfl) (rfl) (by intro u hu; simp only [List.mem_cons, List.not_mem_nil, or_false] at hu; rcases hu with rfl | rfl | rfl <;> rfl) ?_
    intro w hH
    refine zm 1 hF rfl fun a hF => ?_
    refine c_n ?_
    replace hF := hF.sel [2, 3]
    simp only [ss, Nat.reduceBEq] at hF
    refine wp_ret (t2.ret (t1.ret (hret (retc2 (fn := Tryz.f91) (t := 2) (u := 3) (i := 0) hF hH Tryz.results91 rfl rfl (by kernel_rfl) ti175 rfl rfl ?_))))
    have hk : partsOf kind = some [.named] := by first | (exfalso; omega) | (unfold partsOf; simp only [*, if_true, if_false]; done) | (simp [partsOf, *]; done) | (unfold partsOf; repeat' split) <;> first | rfl | omega
    refine ⟨⟨_, _, _, by rw [hk]; rfl, rfl, rfl, rfl, ?_⟩, hH.below⟩
    rw [hk]
    rintro l ⟨⟩
    exact ⟨by decide, rfl, rfl, rfl⟩
   try simp only [qq] at h13
   refine c_sr fun ops => ?_
   refine zb hF rfl rfl rfl (b_eqn _ _ _ 15) fun a hF => ?_
   refine zm 1 hF rfl fun a hF => ?_
   refine c_n ?_
   replace hF := hF.sel [2, 4, 19]
   simp only [ss, Nat.reduceBEq] at hF
   refine c_if hF rfl (fun h19 => ?_) (fun h19 => ?_)
   ·
    try simp only [qq] at h19
    refine c_sr fun ops => ?_
    refine zc hF rfl rfl fn97 (mkfixed_spec 2 _) ?_
    rintro _ w ⟨pb, rfl, hB⟩ a hF
    replace hH := hH.join hB; simp only [List.cons_append, List.nil_append] at hH
    refine zc hF rfl rfl fn98 (mknamed_spec _) ?_
    rintro _ w ⟨rfl, hE⟩ a hF
    replace hH := hH.ext hE
    refine zl hF rfl (r_build hF rfl rfl (bd175_0_1 _ _ _ (rfl) (rfl))) fun a hF => ?_
    refine ls_storeagg 1 hF hH rfl rfl rfl rfl rfl ti175 rfl (rfl) (rfl) (by intro u hu; simp only [List.mem_cons, List.not_mem_nil, or_false] at hu; rcases hu with rfl | rfl | rfl <;> rfl) ?_
    intro w hH
    refine zm 1 hF rfl fun a hF => ?_
    refine c_n ?_
    replace hF := hF.sel [2, 3]
    simp only [ss, Nat.reduceBEq] at hF
    refine wp_ret (t2.ret (t1.ret (hret (retc2 (fn := Tryz.f91) (t := 2) (u := 3) (i := 1) hF hH Tryz.results91 rfl rfl (by kernel_rfl) ti175 rfl rfl ?_))))
    have hk : partsOf kind = some [.fixed 2, .named] := by first | (exfalso; omega) | (unfold partsOf; simp only [*, if_true, if_false]; done) | (simp [partsOf, *]; done) | (unfold partsOf; repeat' split) <;> first | rfl | omega
    refine ⟨⟨_, _, _, by rw [hk]; rfl, rfl, rfl, rfl, ?_⟩, hH.below⟩
    rw [hk]
    rintro l ⟨⟩
    exact ⟨by decide, ⟨_, rfl, own_cell (i := 0) hH rfl rfl⟩, rfl, rfl⟩
   try simp only [qq] at h19
   refine c_sr fun ops => ?_
   refine zb hF rfl rfl rfl (b_eqn _ _ _ 6) fun a hF => ?_
   refine zm 1 hF rfl fun a hF => ?_
   refine c_n ?_
   replace hF := hF.sel [2, 4, 24]
   simp only [ss, Nat.reduceBEq] at hF
   refine c_if hF rfl (fun h24 => ?_) (fun h24 => ?_)
   ·
    try simp only [qq] at h24
    refine c_sr fun ops => ?_
    refine zc hF rfl rfl fn98 (mknamed_spec _) ?_
    rintro _ w ⟨rfl, hE⟩ a hF
    replace hH := hH.ext hE
    refine zc hF rfl rfl fn98 (mknamed_spec _) ?_
    rintro _ w ⟨rfl, hE⟩ a hF
    replace hH := hH.ext hE
    refine zc hF rfl rfl fn97 (mkfixed_spec 20 _) ?_
    rintro _ w ⟨pb, rfl, hB⟩ a hF
    replace hH := hH.join hB; simp only [List.cons_append, List.nil_append] at hH
    refine zl hF rfl (r_build hF rfl rfl (bd175_0_1_2 _ _ _ _ (rfl) (rfl) (rfl))) fun a hF => ?_
    refine ls_storeagg 1 hF hH rfl rfl rfl rfl rfl ti175 rfl (rfl) (rfl) (by intro u hu; simp only [List.mem_cons, List.not_mem_nil, or_false] at hu; rcases hu with rfl | rfl | rfl <;> rfl) ?_
    intro w hH
    refine zm 1 hF rfl fun a hF => ?_
    refine c_n ?_
    replace hF := hF.sel [2, 3]
    simp only [ss, Nat.reduceBEq] at hF
    refine wp_ret (t2.ret (t1.ret (hret (retc2 (fn := Tryz.f91) (t := 2) (u := 3) (i := 1) hF hH Tryz.results91 rfl rfl (by kernel_rfl) ti175 rfl rfl ?_))))
    have hk : partsOf kind = some [.named, .named, .fixed 20] := by first | (exfalso; omega) | (unfold partsOf; simp only [*, if_true, if_false]; done) | (simp [partsOf, *]; done) | (unfold partsOf; repeat' split) <;> first | rfl | omega
    refine ⟨⟨_, _, _, by rw [hk]; rfl, rfl, rfl, rfl, ?_⟩, hH.below⟩
    rw [hk]
    rintro l ⟨⟩
    exact ⟨by decide, rfl, rfl, ⟨_, rfl, own_cell (i := 0) hH rfl rfl⟩⟩
   try simp only [qq] at h24
   refine c_sr fun ops => ?_
   refine zb hF rfl rfl rfl (b_eqn _ _ _ 33) fun a hF => ?_
   refine zm 1 hF rfl fun a hF => ?_
   refine c_n ?_
   replace hF := hF.sel [2, 4, 30]
   simp only [ss, Nat.reduceBEq] at hF
   refine c_if hF rfl (fun h30 => ?_) (fun h30 => ?_)
   ·
    try simp only [qq] at h30
    refine c_sr fun ops => ?_
    refine zc hF rfl rfl fn97 (mkfixed_spec 6 _) ?_
    rintro _ w ⟨pb, rfl, hB⟩ a hF
    replace hH := hH.join hB; simp only [List.cons_append, List.nil_append] at hH
    refine zc hF rfl rfl fn98 (mknamed_spec _) ?_
    rintro _ w ⟨rfl, hE⟩ a hF
    replace hH := hH.ext hE
    refine zl hF rfl (r_build hF rfl rfl (bd175_0_1 _ _ _ (rfl) (rfl))) fun a hF => ?_
    refine ls_storeagg 1 hF hH rfl rfl rfl rfl rfl ti175 rfl (rfl) (rfl) (by intro u hu; simp only [List.mem_cons, List.not_mem_nil, or_false] at hu; rcases hu with rfl | rfl | rfl <;> rfl) ?_
    intro w hH
    refine zm 1 hF rfl fun a hF => ?_
    refine c_n ?_
    replace hF := hF.sel [2, 3]
    simp only [ss, Nat.reduceBEq] at hF
    refine wp_ret (t2.ret (t1.ret (hret (retc2 (fn := Tryz.f91) (t := 2) (u := 3) (i := 1) hF hH Tryz.results91 rfl rfl (by kernel_rfl) ti175 rfl rfl ?_))))
    have hk : partsOf kind = some [.fixed 6, .named] := by first | (exfalso; omega) | (unfold partsOf; simp only [*, if_true, if_false]; done) | (simp [partsOf, *]; done) | (unfold partsOf; repeat' split) <;> first | rfl | omega
    refine ⟨⟨_, _, _, by rw [hk]; rfl, rfl, rfl, rfl, ?_⟩, hH.below⟩
    rw [hk]
    rintro l ⟨⟩
    exact ⟨by decide, ⟨_, rfl, own_cell (i := 0) hH rfl rfl⟩, rfl, rfl⟩
   try simp only [qq] at h30
   refine c_sr fun ops => ?_
   refine zb hF rfl rfl rfl (b_eqn _ _ _ 16) fun a hF => ?_
   refine zm 1 hF rfl fun a hF => ?_
   refine c_n ?_
   replace hF := hF.sel [2, 4, 35]
   simp only [ss, Nat.reduceBEq] at hF
   refine c_if hF rfl (fun h35 => ?_) (fun h35 => ?_)
   ·
    try simp only [qq] at h35
    refine c_sr fun ops => ?_
    refine zc hF rfl rfl fn99 (mktexts_spec _) ?_
    rintro _ w ⟨rfl, hE⟩ a hF
    replace hH := hH.ext hE
    refine zl hF rfl (r_build hF rfl rfl (bd175_0 _ _ (rfl))) fun a hF => ?_
    refine ls_storeagg 0 hF hH rfl rfl rfl rfl rfl ti175 rfl (rfl) (rfl) (by intro u hu; simp only [List.mem_cons, List.not_mem_nil, or_false] at hu; rcases hu with rfl | rfl | rfl <;> rfl) ?_
    intro w hH
    refine zm 1 hF rfl fun a hF => ?_
    refine c_n ?_
    replace hF := hF.sel [2, 3]
    simp only [ss, Nat.reduceBEq] at hF
    refine wp_ret (t2.ret (t1.ret (hret (retc2 (fn := Tryz.f91) (t := 2) (u := 3) (i := 0) hF hH Tryz.results91 rfl rfl (by kernel_rfl) ti175 rfl rfl ?_))))
    have hk : partsOf kind = some [.texts] := by first | (exfalso; omega) | (unfold partsOf; simp only [*, if_true, if_false]; done) | (simp [partsOf, *]; done) | (unfold partsOf; repeat' split) <;> first | rfl | omega
    refine ⟨⟨_, _, _, by rw [hk]; rfl, rfl, rfl, rfl, ?_⟩, hH.below⟩
    rw [hk]
    rintro l ⟨⟩
    exact ⟨by decide, rfl, rfl, rfl⟩
   try simp only [qq] at h35
   refine c_sr fun ops => ?_
   refine zb hF rfl rfl rfl (b_eqn _ _ _ 41) fun a hF => ?_
   refine zm 1 hF rfl fun a hF => ?_
   refine c_n ?_
   replace hF := hF.sel [2, 39]
   simp only [ss, Nat.reduceBEq] at hF
   refine c_if hF rfl (fun h39 => ?_) (fun h39 => ?_)
   ·
    try simp only [qq] at h39
    refine c_sr fun ops => ?_
    refine zl hF rfl (r_loadT hF rfl rfl (by kernel_rfl) ti175 rfl (own_agg (i := 0) hH rfl)) fun a hF => ?_
    refine ls_storeagg 0 hF hH rfl rfl rfl rfl rfl ti175 rfl (rfl) (rfl) (by intro u hu; have h : u = .nilFunc := (by simpa [cells_agg] using hu); rw [h]; rfl) ?_
    intro w hH
    refine zm 1 hF rfl fun a hF => ?_
    refine c_n ?_
    replace hF := hF.sel [2, 3]
    simp only [ss, Nat.reduceBEq] at hF
    refine wp_ret (t2.ret (t1.ret (hret (retc2 (fn := Tryz.f91) (t := 2) (u := 3) (i := 0) hF hH Tryz.results91 rfl rfl (by kernel_rfl) ti175 rfl rfl ?_))))
    have hk : partsOf kind = none := by first | (exfalso; omega) | (unfold partsOf; simp only [*, if_true, if_false]; done) | (simp [partsOf, *]; done) | (unfold partsOf; repeat' split) <;> first | rfl | omega
    exact ⟨⟨_, _, _, by rw [hk]; rfl, rfl, rfl, rfl, by rw [hk]; nofun⟩, hH.below⟩
   try simp only [qq] at h39
   refine wp_skip ?_
   refine t2.norm ?_
   refine k1 ?_
   refine c_sr fun ops => ?_
   refine zc hF rfl rfl fn100 (mkrest_spec _) ?_
   rintro _ w ⟨rfl, hE⟩ a hF
   replace hH := hH.ext hE
   refine zl hF rfl (r_build hF rfl rfl (bd175_0 _ _ (rfl))) fun a hF => ?_
   refine ls_storeagg 0 hF hH rfl rfl rfl rfl rfl ti175 rfl (rfl) (rfl) (by intro u hu; simp only [List.mem_cons, List.not_mem_nil, or_false] at hu; rcases hu with rfl | rfl | rfl <;> rfl) ?_
   intro w hH
   refine zm 1 hF rfl fun a hF => ?_
   refine c_n ?_
   replace hF := hF.sel [2, 3]
   simp only [ss, Nat.reduceBEq] at hF
   refine wp_ret (hret (retc2 (fn := Tryz.f91) (t := 2) (u := 3) (i := 0) hF hH Tryz.results91 rfl rfl (by kernel_rfl) ti175 rfl rfl ?_))
   have hk : partsOf kind = some [.rest] := by first | (exfalso; omega) | (unfold partsOf; simp only [*, if_true, if_false]; done) | (simp [partsOf, *]; done) | (unfold partsOf; repeat' split) <;> first | rfl | omega
   refine ⟨⟨_, _, _, by rw [hk]; rfl, rfl, rfl, rfl, ?_⟩, hH.below⟩
   rw [hk]
   rintro l ⟨⟩
   exact ⟨by decide, rfl, rfl, rfl⟩
  try simp only [qq] at h13
  refine c_reg fun ops => ?_
  refine zb hF rfl rfl rfl (b_eqn _ _ _ 12) fun a hF => ?_
  refine zm 1 hF rfl fun a hF => ?_
  refine wpList_nil ?_
  replace hF := hF.sel [2, 4, 13]
  simp only [ss, Nat.reduceBEq] at hF
  refine k3 ?_
  refine c_if hF rfl (fun h13 => ?_) (fun h13 => ?_)
  ·
   try simp only [qq] at h13
   refine c_sr fun ops => ?_
   refine zc hF rfl rfl fn98 (mknamed_spec _) ?_
   rintro _ w ⟨rfl, hE⟩ a hF
   replace hH := hH.ext hE
   refine zl hF rfl (r_build hF rfl rfl (bd175_0 _ _ (rfl))) fun a hF => ?_
   refine ls_storeagg 0 hF hH rfl rfl rfl rfl rfl ti175 rfl (rfl) (rfl) (by intro u hu; simp only [List.mem_cons, List.not_mem_nil, or_false] at hu; rcases hu with rfl | rfl | rfl <;> rfl) ?_
   intro w hH
   refine zm 1 hF rfl fun a hF => ?_
   refine c_n ?_
   replace hF := hF.sel [2, 3]
   simp only [ss, Nat.reduceBEq] at hF
   refine wp_ret (t2.ret (t1.ret (hret (retc2 (fn := Tryz.f91) (t := 2) (u := 3) (i := 0) hF hH Tryz.results91 rfl rfl (by kernel_rfl) ti175 rfl rfl ?_))))
   have hk : partsOf kind = some [.named] := by first | (exfalso; omega) | (unfold partsOf; simp only [*, if_true, if_false]; done) | (simp [partsOf, *]; done) | (unfold partsOf; repeat' split) <;> first | rfl | omega
   refine ⟨⟨_, _, _, by rw [hk]; rfl, rfl, rfl, rfl, ?_⟩, hH.below⟩
   rw [hk]
   rintro l ⟨⟩
   exact ⟨by decide, rfl, rfl, rfl⟩
  try simp only [qq] at h13
  refine c_sr fun ops => ?_
  refine zb hF rfl rfl rfl (b_eqn _ _ _ 15) fun a hF => ?_
  refine zm 1 hF rfl fun a hF => ?_
  refine c_n ?_
  replace hF := hF.sel [2, 4, 19]
  simp only [ss, Nat.reduceBEq] at hF
  refine c_if hF rfl (fun h19 => ?_) (fun h19 => ?_)
  ·
   try simp only [qq] at h19
   refine c_sr fun ops => ?_
   refine zc hF rfl rfl fn97 (mkfixed_spec 2 _) ?_
   rintro _ w ⟨pb, rfl, hB⟩ a hF
   replace hH := hH.join hB; simp only [List.cons_append, List.nil_append] at hH
   refine zc hF rfl rfl fn98 (mknamed_spec _) ?_
   rintro _ w ⟨rfl, hE⟩ a hF
   replace hH := hH.ext hE
   refine zl hF rfl (r_build hF rfl rfl (bd175_0_1 _ _ _ (rfl) (rfl))) fun a hF => ?_
   refine ls_storeagg 1 hF hH rfl rfl rfl rfl rfl ti175 rfl (rfl) (rfl) (by intro u hu; simp only [List.mem_cons, List.not_mem_nil, or_false] at hu; rcases hu with rfl | rfl | rfl <;> rfl) ?_
   intro w hH
   refine zm 1 hF rfl fun a hF => ?_
   refine c_n ?_
   replace hF := hF.sel [2, 3]
   simp only [ss, Nat.reduceBEq] at hF
   refine wp_ret (t2.ret (t1.ret (hret (retc2 (fn := Tryz.f91) (t := 2) (u := 3) (i := 1) hF hH Tryz.results91 rfl rfl (by kernel_rfl) ti175 rfl rfl ?_))))
   have hk : partsOf kind = some [.fixed 2, .named] := by first | (exfalso; omega) | (unfold partsOf; simp only [*, if_true, if_false]; done) | (simp [partsOf, *]; done) | (unfold partsOf; repeat' split) <;> first | rfl | omega
   refine ⟨⟨_, _, _, by rw [hk]; rfl, rfl, rfl, rfl, ?_⟩, hH.below⟩
   rw [hk]
   rintro l ⟨⟩
   exact ⟨by decide, ⟨_, rfl, own_cell (i := 0) hH rfl rfl⟩, rfl, rfl⟩
  try simp only [qq] at h19
  refine c_sr fun ops => ?_
  refine zb hF rfl rfl rfl (b_eqn _ _ _ 6) fun a hF => ?_
  refine zm 1 hF rfl fun a hF => ?_
  refine c_n ?_
  replace hF := hF.sel [2, 4, 24]
  simp only [ss, Nat.reduceBEq] at hF
  refine c_if hF rfl (fun h24 => ?_) (fun h24 => ?_)
  ·
   try simp only [qq] at h24
   refine c_sr fun ops => ?_
   refine zc hF rfl rfl fn98 (mknamed_spec _) ?_
   rintro _ w ⟨rfl, hE⟩ a hF
   replace hH := hH.ext hE
   refine zc hF rfl rfl fn98 (mknamed_spec _) ?_
   rintro _ w ⟨rfl, hE⟩ a hF
   replace hH := hH.ext hE
   refine zc hF rfl rfl fn97 (mkfixed_spec 20 _) ?_
   rintro _ w ⟨pb, rfl, hB⟩ a hF
   replace hH := hH.join hB; simp only [List.cons_append, List.nil_append] at hH
   refine zl hF rfl (r_build hF rfl rfl (bd175_0_1_2 _ _ _ _ (rfl) (rfl) (rfl))) fun a hF => ?_
   refine ls_storeagg 1 hF hH rfl rfl rfl rfl rfl ti175 rfl (rfl) (rfl) (by intro u hu; simp only [List.mem_cons, List.not_mem_nil, or_false] at hu; rcases hu with rfl | rfl | rfl <;> rfl) ?_
   intro w hH
   refine zm 1 hF rfl fun a hF => ?_
   refine c_n ?_
   replace hF := hF.sel [2, 3]
   simp only [ss, Nat.reduceBEq] at hF
   refine wp_ret (t2.ret (t1.ret (hret (retc2 (fn := Tryz.f91) (t := 2) (u := 3) (i := 1) hF hH Tryz.results91 rfl rfl (by kernel_rfl) ti175 rfl rfl ?_))))
   have hk : partsOf kind = some [.named, .named, .fixed 20] := by first | (exfalso; omega) | (unfold partsOf; simp only [*, if_true, if_false]; done) | (simp [partsOf, *]; done) | (unfold partsOf; repeat' split) <;> first | rfl | omega
   refine ⟨⟨_, _, _, by rw [hk]; rfl, rfl, rfl, rfl, ?_⟩, hH.below⟩
   rw [hk]
   rintro l ⟨⟩
   exact ⟨by decide, rfl, rfl, ⟨_, rfl, own_cell (i := 0) hH rfl rfl⟩⟩
  try simp only [qq] at h24
  refine c_sr fun ops => ?_
  refine zb hF rfl rfl rfl (b_eqn _ _ _ 33) fun a hF => ?_
  refine zm 1 hF rfl fun a hF => ?_
  refine c_n ?_
  replace hF := hF.sel [2, 4, 30]
  simp only [ss, Nat.reduceBEq] at hF
  refine c_if hF rfl (fun h30 => ?_) (fun h30 => ?_)
  ·
   try simp only [qq] at h30
   refine c_sr fun ops => ?_
   refine zc hF rfl rfl fn97 (mkfixed_spec 6 _) ?_
   rintro _ w ⟨pb, rfl, hB⟩ a hF
   replace hH := hH.join hB; simp only [List.cons_append, List.nil_append] at hH
   refine zc hF rfl rfl fn98 (mknamed_spec _) ?_
   rintro _ w ⟨rfl, hE⟩ a hF
   replace hH := hH.ext hE
   refine zl hF rfl (r_build hF rfl rfl (bd175_0_1 _ _ _ (rfl) (rfl))) fun a hF => ?_
   refine ls_storeagg 1 hF hH rfl rfl rfl rfl rfl ti175 rfl (rfl) (rfl) (by intro u hu; simp only [List.mem_cons, List.not_mem_nil, or_false] at hu; rcases hu with rfl | rfl | rfl <;> rfl) ?_
   intro w hH
   refine zm 1 hF rfl fun a hF => ?_
   refine c_n ?_
   replace hF := hF.sel [2, 3]
   simp only [ss, Nat.reduceBEq] at hF
   refine wp_ret (t2.ret (t1.ret (hret (retc2 (fn := Tryz.f91) (t := 2) (u := 3) (i := 1) hF hH Tryz.results91 rfl rfl (by kernel_rfl) ti175 rfl rfl ?_))))
   have hk : partsOf kind = some [.fixed 6, .named] := by first | (exfalso; omega) | (unfold partsOf; simp only [*, if_true, if_false]; done) | (simp [partsOf, *]; done) | (unfold partsOf; repeat' split) <;> first | rfl | omega
   refine ⟨⟨_, _, _, by rw [hk]; rfl, rfl, rfl, rfl, ?_⟩, hH.below⟩
   rw [hk]
   rintro l ⟨⟩
   exact ⟨by decide, ⟨_, rfl, own_cell (i := 0) hH rfl rfl⟩, rfl, rfl⟩
  try simp only [qq] at h30
  refine c_sr fun ops => ?_
  refine zb hF rfl rfl rfl (b_eqn _ _ _ 16) fun a hF => ?_
  refine zm 1 hF rfl fun a hF => ?_
  refine c_n ?_
  replace hF := hF.sel [2, 4, 35]
  simp only [ss, Nat.reduceBEq] at hF
  refine c_if hF rfl (fun h35 => ?_) (fun h35 => ?_)
  ·
   try simp only [qq] at h35
   refine c_sr fun ops => ?_
   refine zc hF rfl rfl fn99 (mktexts_spec _) ?_
   rintro _ w ⟨rfl, hE⟩ a hF
   replace hH := hH.ext hE
   refine zl hF rfl (r_build hF rfl rfl (bd175_0 _ _ (rfl))) fun a hF => ?_
   refine ls_storeagg 0 hF hH rfl rfl rfl rfl rfl ti175 rfl (rfl) (rfl) (by intro u hu; simp only [List.mem_cons, List.not_mem_nil, or_false] at hu; rcases hu with rfl | rfl | rfl <;> rfl) ?_
   intro w hH
   refine zm 1 hF rfl fun a hF => ?_
   refine c_n ?_
   replace hF := hF.sel [2, 3]
   simp only [ss, Nat.reduceBEq] at hF
   refine wp_ret (t2.ret (t1.ret (hret (retc2 (fn := Tryz.f91) (t := 2) (u := 3) (i := 0) hF hH Tryz.results91 rfl rfl (by kernel_rfl) ti175 rfl rfl ?_))))
   have hk : partsOf kind = some [.texts] := by first | (exfalso; omega) | (unfold partsOf; simp only [*, if_true, if_false]; done) | (simp [partsOf, *]; done) | (unfold partsOf; repeat' split) <;> first | rfl | omega
   refine ⟨⟨_, _, _, by rw [hk]; rfl, rfl, rfl, rfl, ?_⟩, hH.below⟩
   rw [hk]
   rintro l ⟨⟩
   exact ⟨by decide, rfl, rfl, rfl⟩
  try simp only [qq] at h35
  refine c_sr fun ops => ?_
  refine zb hF rfl rfl rfl (b_eqn _ _ _ 41) fun a hF => ?_
  refine zm 1 hF rfl fun a hF => ?_
  refine c_n ?_
  replace hF := hF.sel [2, 39]
  simp only [ss, Nat.reduceBEq] at hF
  refine c_if hF rfl (fun h39 => ?_) (fun h39 => ?_)
  ·
   try simp only [qq] at h39
   refine c_sr fun ops => ?_
   refine zl hF rfl (r_loadT hF rfl rfl (by kernel_rfl) ti175 rfl (own_agg (i := 0) hH rfl)) fun a hF => ?_
   refine ls_storeagg 0 hF hH rfl rfl rfl rfl rfl ti175 rfl (rfl) (rfl) (by intro u hu; have h : u = .nilFunc := (by simpa [cells_agg] using hu); rw [h]; rfl) ?_
   intro w hH
   refine zm 1 hF rfl fun a hF => ?_
   refine c_n ?_
   replace hF := hF.sel [2, 3]
   simp only [ss, Nat.reduceBEq] at hF
   refine wp_ret (t2.ret (t1.ret (hret (retc2 (fn := Tryz.f91) (t := 2) (u := 3) (i := 0) hF hH Tryz.results91 rfl rfl (by kernel_rfl) ti175 rfl rfl ?_))))
   have hk : partsOf kind = none := by first | (exfalso; omega) | (unfold partsOf; simp only [*, if_true, if_false]; done) | (simp [partsOf, *]; done) | (unfold partsOf; repeat' split) <;> first | rfl | omega
   exact ⟨⟨_, _, _, by rw [hk]; rfl, rfl, rfl, rfl, by rw [hk]; nofun⟩, hH.below⟩
  try simp only [qq] at h39
  refine wp_skip ?_
  refine t2.norm ?_
  refine k1 ?_
  refine c_sr fun ops => ?_
  refine zc hF rfl rfl fn100 (mkrest_spec _) ?_
  rintro _ w ⟨rfl, hE⟩ a hF
  replace hH := hH.ext hE
  refine zl hF rfl (r_build hF rfl rfl (bd175_0 _ _ (rfl))) fun a hF => ?_
  refine ls_storeagg 0 hF hH rfl rfl rfl rfl rfl ti175 rfl (rfl) (rfl) (by intro u hu; simp only [List.mem_cons, List.not_mem_nil, or_false] at hu; rcases hu with rfl | rfl | rfl <;> rfl) ?_
  intro w hH
  refine zm 1 hF rfl fun a hF => ?_
  refine c_n ?_
  replace hF := hF.sel [2, 3]
  simp only [ss, Nat.reduceBEq] at hF
  refine wp_ret (hret (retc2 (fn := Tryz.f91) (t := 2) (u := 3) (i := 0) hF hH Tryz.results91 rfl rfl (by kernel_rfl) ti175 rfl rfl ?_))
  have hk : partsOf kind = some [.rest] := by first | (exfalso; omega) | (unfold partsOf; simp only [*, if_true, if_false]; done) | (simp [partsOf, *]; done) | (unfold partsOf; repeat' split) <;> first | rfl | omega
  refine ⟨⟨_, _, _, by rw [hk]; rfl, rfl, rfl, rfl, ?_⟩, hH.below⟩
  rw [hk]
  rintro l ⟨⟩
  exact ⟨by decide, rfl, rfl, rfl⟩

theorem Hp.base {w0 w1 w : World} {H : List (Nat × Obj)} (h : Ext w0 w1) (hH : Hp w1 w H) : Hp w0 w H := ⟨h.trans hH.below, fun p hp => ⟨(hH.own p hp).1, Nat.le_trans h.size (hH.own p hp).2⟩, hH.nodup⟩

theorem part_spec {w0 w : World} {H B : List (Nat × Obj)} {gr gc p : Nat} {msg : Bs} {whole : Bool} {sv f : Value} {pcs : Pieces} (x : Part) (hG : GW w0) (hH : Hp w0 w ((gr, rdrO gc msg whole sv) :: (gc, curO msg p) :: (B ++ H))) (hS : Sl 168 2 B sv pcs.length (pcV pcs)) (hp : p ≤ msg.length) (hs : msg.length < 1000000) (hps : pcs.length < 4000000)
    (hf : PartV w f (some x)) : RetsV Tryz.prog f [ptr gr] w (PartQ w0 H gr gc msg whole (doPart msg whole p pcs x)) := by
  cases x with
  | fixed n =>
    obtain ⟨pb, rfl, hn⟩ := hf
    exact ⟨_, _, rfl, fn108, fixed_spec n pb hG hH hS hp hs (by omega) hn⟩
  | named => cases hf; exact ⟨_, _, rfl, fn109, named_spec hG hH hS hp hs (by omega)⟩
  | texts => cases hf; exact ⟨_, _, rfl, fn110, texts_spec hG hH hS hp hs hps⟩
  | rest => cases hf; exact ⟨_, _, rfl, fn111, rest_spec hG hH hS hp hs (by omega)⟩

/-- A function value, or none. -/
def FuncV (u : Value) : Prop := u = .nilFunc ∨ ∃ fn x y, u = .func fn x y
def isNilF : Value → Bool
  | .nilFunc => true
  | _ => false
theorem r_fnil {P : Program} {o : Oper} {a : Act} {w : World} {N : Nat} {L : List (Nat × Value)} (hF : FrD Ds N L a) {x y : Operand} {t ty : TypeId} {u : Value} {ps' rs : Array TypeId} {vr : Bool} (ho : o.op = .binOp .eql t x y ty) (hx : ev L x = some u) (hy : ev L y = some .nilFunc) (hu : FuncV u) (ht : P.underlying t = some (.func ps' rs vr)) : Does P o a w (.bool (isNilF u)) w := by
  rcases hu with rfl | ⟨fn, x, y, rfl⟩
  · exact r_bin hF ho hx hy rfl (b_fnil ht)
  · exact r_bin hF ho hx hy rfl (b_fsome ht)
theorem PartV.func {w : World} {f : Value} {x : Option Part} (h : PartV w f x) : FuncV f ∧ (isNilF f = x.isNone) := by
  cases x with
  | none => cases h; exact ⟨.inl rfl, rfl⟩
  | some x => cases x with
    | fixed n => obtain ⟨pb, rfl, _⟩ := h; exact ⟨.inr ⟨_, _, _, rfl⟩, rfl⟩
    | named => cases h; exact ⟨.inr ⟨_, _, _, rfl⟩, rfl⟩
    | texts => cases h; exact ⟨.inr ⟨_, _, _, rfl⟩, rfl⟩
    | rest => cases h; exact ⟨.inr ⟨_, _, _, rfl⟩, rfl⟩

theorem textsG_le {msg : Bs} : ∀ (f p : Nat) (q : Pieces), (textsG msg f p q).1 = 0 → (textsG msg f p q).2.1 ≤ msg.length ∧ (textsG msg f p q).2.2.length + p ≤ q.length + (textsG msg f p q).2.1
  | 0, _, _, h => by simp [textsG] at h
  | f + 1, p, q, h => by
    unfold textsG at h ⊢
    split at h
    · simp at h
    · rename_i h1
      rw [if_neg h1]
      split at h
      · simp at h
      · rename_i h2
        rw [if_neg h2]
        split at h
        · rename_i h3
          rw [if_pos h3]
          simp only [List.length_append, List.length_singleton]
          omega
        · rename_i h3
          rw [if_neg h3]
          have := textsG_le f _ _ h
          rw [List.length_append, List.length_singleton] at this
          omega
theorem doPart_le {msg : Bs} {whole : Bool} {p : Nat} {q : Pieces} (hp : p ≤ msg.length) (x : Part) (h : (doPart msg whole p q x).1 = 0) : (doPart msg whole p q x).2.1 ≤ msg.length ∧ (doPart msg whole p q x).2.2.length ≤ q.length + 1 + msg.length := by
  cases x with
  | fixed n =>
    rw [doPart] at h ⊢
    split at h
    · simp at h
    · rename_i h1
      rw [if_neg h1]
      simp only [List.length_append, List.length_singleton]; omega
  | named =>
    rw [doPart] at h ⊢
    split at h
    · rename_i h1; exact absurd h h1
    · rename_i h1
      rw [if_neg h1]
      split at h
      · simp at h
      · rename_i h2
        rw [if_neg h2]
        have := readAt_next (msg := msg) (q := p) (by simpa using h1)
        simp only [List.length_append, List.length_singleton]; omega
  | texts => rw [doPart] at h ⊢; have := textsG_le _ p q h; omega
  | rest => rw [doPart]; simp only [List.length_append, List.length_singleton]; omega

theorem doParts_cons {msg : Bs} {whole : Bool} {x : Part} {xs : List Part} {p : Nat} {q : Pieces} : doParts msg whole (x :: xs) p q = if (doPart msg whole p q x).1 = 0 then doParts msg whole xs (doPart msg whole p q x).2.1 (doPart msg whole p q x).2.2 else doPart msg whole p q x := by
  rw [doParts]
  obtain ⟨e, p', q'⟩ := doPart msg whole p q x
  cases e with
  | zero => rfl
  | succ e => rfl

theorem read_spec (msg : Bs) (at' kind : Nat) (whole : Bool) (hat : at' ≤ msg.length) (hs : msg.length < 1000000) (w0 : World) (hG : GW w0) : Rets Tryz.prog 76 [.string (mk msg), .int .i64 at', .int .u16 kind, .bool whole] w0
    fun v w' => ∃ sv B, v = .tuple #[sv, .int .i64 (readD msg at' kind whole).1] ∧ Hp w0 w' B ∧ Sl 168 2 B sv (readD msg at' kind whole).2.length (pcV (readD msg at' kind whole).2) := by
  have hH := Hp.refl w0
  refine rets_start Tryz.func76 rfl Tryz.ntmps76 rfl fun a Q0 hF hret hend => ?_
  simp only [argsFrom, Nat.zero_add, Nat.reduceAdd] at hF
  refine c_sr fun ops => ?_
  refine zm 2 hF rfl fun a hF => ?_
  refine c_n ?_
  replace hF := hF.sel [0, 1, 2, 3]
  simp only [ss, Nat.reduceBEq] at hF
  refine c_sr fun ops => ?_
  refine zm 1 hF rfl fun a hF => ?_
  refine zc hF rfl rfl fn91 (parts_spec kind _) ?_
  rintro _ w1 ⟨⟨f0, f1, f2, rfl, o0, o1, o2, hP⟩, hE0⟩ a hF
  replace hH := Hp.refl w1
  refine zm 3 hF rfl fun a hF => ?_
  refine ls_alloc hF hH rfl rfl rfl rfl zv175 ?_
  intro a w g1_5 hH hE hF
  refine ls_storeagg 0 hF hH rfl rfl rfl rfl rfl ti175 rfl (rfl) (rfl) (by intro u hu; simp only [List.mem_cons, List.not_mem_nil, or_false] at hu; rcases hu with rfl | rfl | rfl <;> assumption) ?_
  intro w hH
  refine zm 1 hF rfl fun a hF => ?_
  refine c_n ?_
  replace hF := hF.sel [0, 1, 3, 10, 11]
  simp only [ss, Nat.reduceBEq] at hF
  refine c_seq fun Q1 k1 t1 => ?_
  refine c_sr fun ops => ?_
  refine zm 1 hF rfl fun a hF => ?_
  refine zl hF rfl (r_not hF rfl rfl) fun a hF => ?_
  refine c_n ?_
  replace hF := hF.sel [0, 1, 3, 10, 22]
  simp only [ss, Nat.reduceBEq] at hF
  refine c_if hF rfl (fun h22 => ?_) (fun h22 => ?_)
  ·
   try simp only [qq] at h22
   refine c_sr fun ops => ?_
   refine zm 2 hF rfl fun a hF => ?_
   refine c_n ?_
   replace hF := hF.sel [8, 9]
   simp only [ss, Nat.reduceBEq] at hF
   refine wp_ret (t1.ret (hret (ret2 hF Tryz.results76 rfl rfl ?_)))
   have hk : partsOf kind = none := by cases h : partsOf kind with | none => rfl | some l => rw [h] at h22; simp at h22
   refine ⟨_, [], by rw [readD, hk]; rfl, Hp.base hE0 (hH.sub (List.nil_sublist _)), by rw [readD, hk]; exact Sl.nil _ _⟩
  try simp only [qq] at h22
  obtain ⟨l, hk⟩ : ∃ l, partsOf kind = some l := by cases h : partsOf kind with | none => rw [h] at h22; simp at h22 | some l => exact ⟨l, rfl⟩
  obtain ⟨hl3, hp0, hp1, hp2⟩ := hP l hk
  have hrd : readD msg at' kind whole = readE msg (doParts msg whole l at' []) := by rw [readD, hk]
  have hG1 := hG.ext hE0
  refine wp_skip ?_
  refine k1 ?_
  refine c_sr fun ops => ?_
  refine zm 1 hF rfl fun a hF => ?_
  refine zc hF rfl rfl fn22 (new_spec msg _) ?_
  rintro _ w ⟨gc, rfl, hC⟩ a hF
  replace hH := hH.join hC
  refine zm 2 hF rfl fun a hF => ?_
  refine zl hF rfl (r_build hF rfl rfl (bd180_0_1_2 _ _ _ _ (rfl) (rfl) (rfl))) fun a hF => ?_
  refine ls_box hF hH rfl rfl rfl rfl rfl ?_
  intro a w g4_5 hH hE hF
  refine zm 1 hF rfl fun a hF => ?_
  refine c_n ?_
  replace hF := hF.sel [1, 10, 12]
  simp only [ss, Nat.reduceBEq] at hF
  simp only [List.cons_append, List.nil_append] at hH
  refine c_sr fun ops => ?_
  refine zm 1 hF rfl fun a hF => ?_
  refine zl hF rfl (r_nilcheck hF rfl rfl) fun a hF => ?_
  refine zl hF rfl (r_fieldaddr0 hF rfl rfl fd180_0) fun a hF => ?_
  refine zl hF rfl (r_load hF rfl rfl fl64 (own_cell (i := 0) (v := ptr gc) hH rfl rfl)) fun a hF => ?_
  refine zm 1 hF rfl fun a hF => ?_
  replace hH := hH.perm (List.Perm.swap _ _ _)
  refine zc hF rfl rfl fn23 (seek_spec' _ hH hs) ?_
  rintro _ w ⟨rfl, hH⟩ a hF
  refine c_n ?_
  replace hF := hF.sel [10, 12]
  simp only [ss, Nat.reduceBEq] at hF
  replace hH := hH.perm (List.Perm.swap _ _ _)
  rw [if_pos hat] at hH
  refine c_seq fun Q2 k2 t2 => ?_
  refine c_sr fun ops => ?_
  refine zl hF rfl (r_loadT hF rfl rfl (by kernel_rfl) ti175 rfl (own_agg (i := 2) hH rfl)) fun a hF => ?_
  refine zm 1 hF rfl fun a hF => ?_
  refine c_n ?_
  replace hF := hF.sel [12, 35, 36]
  simp only [ss, Nat.reduceBEq] at hF
  refine c_block fun Q3 t3 => ?_
  refine c_loop (fun n a w => ∃ i p q sv B, n = 3 - i ∧ i ≤ 3 ∧ p ≤ msg.length ∧ q.length ≤ i * 1000001 ∧ doParts msg whole l at' [] = doParts msg whole (l.drop i) p q ∧ Fr 58 [(12, ptr g4_5), (35, .agg #[f0, f1, f2]), (36, .int .i64 (i : Nat))] a ∧ Hp w1 w ((g4_5, rdrO gc msg whole sv) :: (gc, curO msg p) :: (B ++ [(g1_5, .cells #[f0, f1, f2] 175 (0, 0))])) ∧ Sl 168 2 B sv q.length (pcV q)) ?_ ?_
  ·
   exact ⟨_, 0, at', [], _, [], rfl, by omega, hat, by simp, rfl, hF.keep [12, 35, 36] rfl, hH, Sl.nil _ _⟩
  clear hH hF
  intro n a w hI Q4 k4 t4
  obtain ⟨i, p, q, sv, B, hn, hi, hp, hq, he, hF, hH, hS⟩ := hI
  refine c_sr fun ops => ?_
  refine zb hF rfl rfl rfl (b_ltn _ _ _ 3) fun a hF => ?_
  refine c_n ?_
  refine c_seq fun Q5 k5 t5 => ?_
  refine c_fi hF rfl (fun h37 => ?_) (fun h37 => ?_)
  ·
   try simp only [qq] at h37
   refine wp_exit (t5.exit (t4.exit (t3.here (?_))))
   refine k2 ?_
   refine c_seq fun Q10 k10 t10 => ?_
   rw [List.drop_eq_nil_of_le (by omega), doParts] at he
   rw [he] at hrd
   refine c_sr fun ops => ?_
   refine zm 1 hF rfl fun a hF => ?_
   refine zl hF rfl (r_nilcheck hF rfl rfl) fun a hF => ?_
   refine zl hF rfl (r_fieldaddr0 hF rfl rfl fd180_0) fun a hF => ?_
   refine zl hF rfl (r_load hF rfl rfl fl64 (own_cell (i := 0) (v := ptr gc) hH rfl rfl)) fun a hF => ?_
   replace hH := hH.perm (List.Perm.swap _ _ _)
   refine zc hF rfl rfl fn29 (left_spec hH hp hs) ?_
   rintro _ w ⟨rfl, hH⟩ a hF
   refine zb hF rfl rfl rfl (b_gtn _ _ _ 0) fun a hF => ?_
   refine c_n ?_
   replace hF := hF.sel [12, 53]
   simp only [ss, Nat.reduceBEq] at hF
   replace hH := hH.perm (List.Perm.swap _ _ _)
   refine c_if hF rfl (fun h53 => ?_) (fun h53 => ?_)
   ·
    try simp only [qq] at h53
    refine c_sr fun ops => ?_
    refine zm 2 hF rfl fun a hF => ?_
    refine c_n ?_
    replace hF := hF.sel [8, 9]
    simp only [ss, Nat.reduceBEq] at hF
    refine wp_ret (t10.ret (hret (ret2 hF Tryz.results76 rfl rfl ?_)))
    have hrd' : readD msg at' kind whole = (3, []) := by rw [hrd, readE, if_pos rfl, if_pos (by simp only; omega)]
    exact ⟨_, [], by rw [hrd']; rfl, Hp.base hE0 (hH.sub (List.nil_sublist _)), by rw [hrd']; exact Sl.nil _ _⟩
   try simp only [qq] at h53
   refine wp_skip ?_
   refine k10 ?_
   refine c_sr fun ops => ?_
   refine zm 1 hF rfl fun a hF => ?_
   refine zl hF rfl (r_nilcheck hF rfl rfl) fun a hF => ?_
   refine zl hF rfl (r_fieldaddr0 hF rfl rfl fd180_3) fun a hF => ?_
   refine zl hF rfl (r_load hF rfl rfl fl147 (own_cell (i := 0) (v := sv) hH rfl rfl)) fun a hF => ?_
   refine zm 2 hF rfl fun a hF => ?_
   refine c_n ?_
   replace hF := hF.sel [8, 9]
   simp only [ss, Nat.reduceBEq] at hF
   refine wp_ret (hret (ret2 hF Tryz.results76 rfl rfl ?_))
   have hrd' : readD msg at' kind whole = (0, q) := by rw [hrd, readE, if_pos rfl, if_neg (by simp only; omega)]
   exact ⟨_, B, by rw [hrd']; rfl, Hp.base hE0 (hH.sub (.cons _ (.cons _ (List.sublist_append_left _ _)))), by rw [hrd']; exact hS⟩
  try simp only [qq] at h37
  obtain ⟨u, hu, hPu⟩ : ∃ u, (#[f0, f1, f2] : Array Value)[i]? = some u ∧ PartV w1 u l[i]? := by
    rcases (show i = 0 ∨ i = 1 ∨ i = 2 by omega) with rfl | rfl | rfl
    · exact ⟨_, rfl, hp0⟩
    · exact ⟨_, rfl, hp1⟩
    · exact ⟨_, rfl, hp2⟩
  obtain ⟨hfu, hni⟩ := hPu.func
  refine wp_skip ?_
  refine k5 ?_
  refine c_seq fun Q6 k6 t6 => ?_
  refine c_block fun Q7 t7 => ?_
  refine c_sr fun ops => ?_
  refine zl hF rfl (r_indexarr hF _ rfl rfl rfl Tryz.underlying175 ti174 (by unfold flat; rw [Tryz.underlying174]) (by omega) (hu)) fun a hF => ?_
  refine zm 1 hF rfl fun a hF => ?_
  refine c_n ?_
  refine c_seq fun Q8 k8 t8 => ?_
  refine c_sr fun ops => ?_
  refine zm 1 hF rfl fun a hF => ?_
  refine zl hF rfl (r_fnil hF rfl rfl rfl hfu Tryz.underlying174) fun a hF => ?_
  refine c_n ?_
  refine c_fi hF rfl (fun h40 => ?_) (fun h40 => ?_)
  ·
   try simp only [qq] at h40
   obtain ⟨x, hx⟩ : ∃ x, l[i]? = some x := by
     rw [h40] at hni
     cases hx : l[i]? with
     | none => rw [hx] at hni; simp at hni
     | some x => exact ⟨x, rfl⟩
   rw [hx] at hPu
   have hil : i < l.length := (List.getElem?_eq_some_iff.1 hx).1
   have hdr : l.drop i = x :: l.drop (i + 1) := by rw [List.drop_eq_getElem_cons hil, (List.getElem?_eq_some_iff.1 hx).2]
   rw [hdr, doParts_cons] at he
   refine wp_skip ?_
   refine k8 ?_
   refine c_sr fun ops => ?_
   refine zm 2 hF rfl fun a hF => ?_
   refine ls_callV hF rfl rfl rfl rfl rfl rfl (part_spec x hG1 hH hS hp hs (by omega) (hPu.ext hH.below)) ?_
   rintro _ w ⟨rfl, hE1, hQ⟩ a hF
   refine zm 1 hF rfl fun a hF => ?_
   refine c_n ?_
   refine c_sr fun ops => ?_
   refine zm 1 hF rfl fun a hF => ?_
   refine zb hF rfl rfl rfl (b_nen _ _ _ 0) fun a hF => ?_
   refine c_n ?_
   refine c_fi hF rfl (fun h45 => ?_) (fun h45 => ?_)
   ·
    try simp only [qq] at h45
    obtain ⟨sv', B', hH', hS'⟩ := hQ (by omega)
    rw [if_pos (by omega)] at he
    have hle := doPart_le (whole := whole) (q := q) hp x (by omega)
    refine wp_skip ?_
    refine t7.norm ?_
    refine k6 ?_
    refine c_reg fun ops => ?_
    refine zb hF rfl rfl rfl (b_addn _ _ 1 (by omega)) fun a hF => ?_
    refine zm 1 hF rfl fun a hF => ?_
    refine wpList_nil ?_
    refine k4 ?_
    exact ⟨3 - (i + 1), by omega, i + 1, _, _, sv', B', rfl, by omega, hle.1, by omega, he, hF.keep [12, 35, 36] rfl, hH', hS'⟩
   try simp only [qq] at h45
   refine c_sr fun ops => ?_
   refine zm 3 hF rfl fun a hF => ?_
   refine c_n ?_
   refine wp_ret (t7.ret (t6.ret (t4.ret (t3.ret (t2.ret (hret (ret2 hF Tryz.results76 rfl rfl ?_)))))))
   rw [if_neg (by omega)] at he
   have hrd' : readD msg at' kind whole = ((doPart msg whole p q x).1, []) := by
     rw [hrd, he, readE, if_neg (by omega)]
   exact ⟨_, [], by rw [hrd'], ⟨hE0.trans hE1, fun _ h => (List.not_mem_nil h).elim, List.nodup_nil⟩, by rw [hrd']; exact Sl.nil _ _⟩
  try simp only [qq] at h40
  have hil : l.length ≤ i := by
    rw [h40] at hni
    cases hx : l[i]? with
    | none => exact List.getElem?_eq_none_iff.1 hx
    | some x => rw [hx] at hni; simp at hni
  refine wp_exit (t8.exit (t7.exit (by decide) (t6.exit (t4.exit (t3.here (?_))))))
  refine k2 ?_
  refine c_seq fun Q9 k9 t9 => ?_
  rw [List.drop_eq_nil_of_le (by omega), doParts] at he
  rw [he] at hrd
  refine c_sr fun ops => ?_
  refine zm 1 hF rfl fun a hF => ?_
  refine zl hF rfl (r_nilcheck hF rfl rfl) fun a hF => ?_
  refine zl hF rfl (r_fieldaddr0 hF rfl rfl fd180_0) fun a hF => ?_
  refine zl hF rfl (r_load hF rfl rfl fl64 (own_cell (i := 0) (v := ptr gc) hH rfl rfl)) fun a hF => ?_
  replace hH := hH.perm (List.Perm.swap _ _ _)
  refine zc hF rfl rfl fn29 (left_spec hH hp hs) ?_
  rintro _ w ⟨rfl, hH⟩ a hF
  refine zb hF rfl rfl rfl (b_gtn _ _ _ 0) fun a hF => ?_
  refine c_n ?_
  replace hF := hF.sel [12, 53]
  simp only [ss, Nat.reduceBEq] at hF
  replace hH := hH.perm (List.Perm.swap _ _ _)
  refine c_if hF rfl (fun h53 => ?_) (fun h53 => ?_)
  ·
   try simp only [qq] at h53
   refine c_sr fun ops => ?_
   refine zm 2 hF rfl fun a hF => ?_
   refine c_n ?_
   replace hF := hF.sel [8, 9]
   simp only [ss, Nat.reduceBEq] at hF
   refine wp_ret (t9.ret (hret (ret2 hF Tryz.results76 rfl rfl ?_)))
   have hrd' : readD msg at' kind whole = (3, []) := by rw [hrd, readE, if_pos rfl, if_pos (by simp only; omega)]
   exact ⟨_, [], by rw [hrd']; rfl, Hp.base hE0 (hH.sub (List.nil_sublist _)), by rw [hrd']; exact Sl.nil _ _⟩
  try simp only [qq] at h53
  refine wp_skip ?_
  refine k9 ?_
  refine c_sr fun ops => ?_
  refine zm 1 hF rfl fun a hF => ?_
  refine zl hF rfl (r_nilcheck hF rfl rfl) fun a hF => ?_
  refine zl hF rfl (r_fieldaddr0 hF rfl rfl fd180_3) fun a hF => ?_
  refine zl hF rfl (r_load hF rfl rfl fl147 (own_cell (i := 0) (v := sv) hH rfl rfl)) fun a hF => ?_
  refine zm 2 hF rfl fun a hF => ?_
  refine c_n ?_
  replace hF := hF.sel [8, 9]
  simp only [ss, Nat.reduceBEq] at hF
  refine wp_ret (hret (ret2 hF Tryz.results76 rfl rfl ?_))
  have hrd' : readD msg at' kind whole = (0, q) := by rw [hrd, readE, if_pos rfl, if_neg (by simp only; omega)]
  exact ⟨_, B, by rw [hrd']; rfl, Hp.base hE0 (hH.sub (.cons _ (.cons _ (List.sublist_append_left _ _)))), by rw [hrd']; exact hS⟩
end Go.Proofs.YtpoebplhemimmaaGreatDoor
