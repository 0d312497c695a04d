/-
  How many bytes a message has. No program is in sight here.
-/
import Derived.Test.YtpoebplhemimmaaGreatDoorLaw7a
namespace Go.Proofs.YtpoebplhemimmaaGreatDoor
set_option linter.unusedVariables false
set_option linter.unusedSimpArgs false

theorem recW_len {r : Rec} (hn : mayB r.name = true) (pos : Nat) (t : Tab) : (recW r pos t).1.length ≤ rwS r := by
  have h1 := nmW_len (cmp := true) (kn := true) hn pos t
  have h2 := dataW_len (c := compB r.kind) (pcs r.kind r.data) (pos + (nmW true true r.name pos t).1.length + 10) (nmW true true r.name pos t).2 pcs_names
  have h3 := pcs_len r.kind r.data
  show ((nmW true true r.name pos t).1 ++ (be2 r.kind ++ (be2 r.cls ++ (be4 r.ttl ++ (be2 (recD r pos t).1.length ++ (recD r pos t).1))))).length ≤ _
  simp only [List.length_append, be2_len, be4_len]
  have h4 : (recD r pos t).1.length ≤ r.data.length := by show (dataW (compB r.kind) (pcs r.kind r.data) _ _).1.length ≤ _; omega
  unfold rwS; omega
theorem recsW_len : ∀ (l : List Rec) (pos : Nat) (t : Tab) (x : Bs × Tab), (∀ r ∈ l, mayB r.name = true) → recsW l pos t = some x → x.1.length ≤ (l.map rwS).sum
  | [], _, _, x, _, h => by simp only [recsW, Option.some.injEq] at h; subst h; simp
  | r :: l, pos, t, x, hn, h => by
    rw [recsW_cons] at h
    split at h
    · cases h
    · obtain ⟨y, hy, rfl⟩ := Option.map_eq_some_iff.1 h
      have h1 := recW_len (hn r List.mem_cons_self) pos t
      have h2 := recsW_len l _ _ y (fun r hr => hn r (List.mem_cons_of_mem _ hr)) hy
      simp only [List.length_append, List.map_cons, List.sum_cons]; omega
theorem quesW_len : ∀ (l : List Que) (pos : Nat) (t : Tab) (x : Bs × Tab), (∀ r ∈ l, mayB r.name = true) → quesW l pos t = some x → x.1.length ≤ (l.map qwS).sum
  | [], _, _, x, _, h => by simp only [quesW, Option.some.injEq] at h; subst h; simp
  | r :: l, pos, t, x, hn, h => by
    rw [quesW_cons] at h
    split at h
    · cases h
    · obtain ⟨y, hy, rfl⟩ := Option.map_eq_some_iff.1 h
      have h1 := nmW_len (cmp := true) (kn := true) (hn r List.mem_cons_self) pos t
      have h3 : (queW r pos t).1.length ≤ qwS r := by
        show ((nmW true true r.name pos t).1 ++ (be2 r.kind ++ be2 r.cls)).length ≤ _
        simp only [List.length_append, be2_len]; unfold qwS; omega
      have h2 := quesW_len l _ _ y (fun r hr => hn r (List.mem_cons_of_mem _ hr)) hy
      simp only [List.length_append, List.map_cons, List.sum_cons]; omega
theorem optsW_sz : ∀ (l : List Opt) (b d : Bs), optsW l b = some d → d.length = b.length + (l.map owS).sum
  | [], b, d, h => by simp only [optsW, Option.some.injEq] at h; subst h; simp
  | o :: l, b, d, h => by
    rw [optsW] at h
    split at h
    · cases h
    · split at h
      · cases h
      · have := optsW_sz l _ d h
        simp only [List.length_append, be2_len, List.map_cons, List.sum_cons] at this ⊢
        have ho : owS o = 4 + o.data.length := rfl
        omega
theorem lastW_len {m : Msg} {o : Bs} (h : lastW m = some o) : o.length = if m.has = true then 11 + (m.ed.opts.map owS).sum else 0 := by
  unfold lastW at h
  split at h
  · rename_i hh
    obtain ⟨d, hd, rfl⟩ := Option.map_eq_some_iff.1 h
    have := optsW_sz _ _ _ hd
    rw [if_pos hh]
    simp only [optW, List.length_cons, List.length_append, be2_len, be4_len, List.length_nil] at this ⊢
    omega
  · rename_i hh
    simp only [Option.some.injEq] at h; subst h
    rw [if_neg hh]; rfl
structure MayL (m : Msg) : Prop where
  qs : ∀ q ∈ m.qs, mayB q.name = true
  ans : ∀ r ∈ m.ans, mayB r.name = true ∧ dmayB r.kind r.data = true
  auth : ∀ r ∈ m.auth, mayB r.name = true ∧ dmayB r.kind r.data = true
  extra : ∀ r ∈ m.extra, mayB r.name = true ∧ dmayB r.kind r.data = true
  op : m.hd.op ≤ 15
  code : m.hd.code ≤ 15
  bare : m.has = true ∨ bareE m.ed = true
  nq : m.qs.length ≤ 65535
  na : m.ans.length ≤ 65535
  nu : m.auth.length ≤ 65535
  nx : m.extra.length + (if m.has = true then 1 else 0) ≤ 65535
theorem recsMay_iff {l : List Rec} (h : recsMay l = true) : l.length ≤ 65535 ∧ ∀ r ∈ l, mayB r.name = true ∧ dmayB r.kind r.data = true := by
  unfold recsMay at h
  simp only [Bool.and_eq_true, decide_eq_true_eq, List.all_eq_true] at h
  exact h
theorem mayM_l {m : Msg} (h : mayM m = true) : MayL m := by
  unfold mayM at h
  simp only [Bool.and_eq_true, decide_eq_true_eq, List.all_eq_true, Bool.or_eq_true] at h
  obtain ⟨⟨⟨⟨⟨⟨⟨⟨h1, h2⟩, h3⟩, h4⟩, h5⟩, h6⟩, h7⟩, h8⟩, h9⟩ := h
  have ha := recsMay_iff h6; have hu := recsMay_iff h7; have hx := recsMay_iff h8
  refine ⟨h5, ha.2, hu.2, hx.2, h1, h2, h3, h4, ha.1, hu.1, ?_⟩
  cases hh : m.has with
  | false => simpa using hx.1
  | true => rw [hh] at h9; simp at h9; simp; omega
theorem bodyW_len {m : Msg} (hm : MayL m) {b : Bs × Tab} (h : bodyW m = some b) : b.1.length ≤ (m.qs.map qwS).sum + secsW m 3 := by
  have hw : secsW m 3 = (m.ans.map rwS).sum + (m.auth.map rwS).sum + (m.extra.map rwS).sum := by simp [secsW, List.range_succ, secL]; omega
  unfold bodyW at h
  cases hq : quesW m.qs 12 [] with
  | none => rw [hq] at h; cases h
  | some a =>
  rw [hq] at h; simp only at h
  cases h1 : recsW m.ans (12 + a.1.length) a.2 with
  | none => rw [h1] at h; cases h
  | some c =>
  rw [h1] at h; simp only at h
  cases h2 : recsW m.auth (12 + a.1.length + c.1.length) c.2 with
  | none => rw [h2] at h; cases h
  | some d =>
  rw [h2] at h; simp only at h
  cases h3 : recsW m.extra (12 + a.1.length + c.1.length + d.1.length) d.2 with
  | none => rw [h3] at h; cases h
  | some e =>
  rw [h3] at h; simp only [Option.some.injEq] at h
  subst h
  have e0 := quesW_len _ _ _ _ hm.qs hq
  have e1 := recsW_len _ _ _ _ (fun r hr => (hm.ans r hr).1) h1
  have e2 := recsW_len _ _ _ _ (fun r hr => (hm.auth r hr).1) h2
  have e3 := recsW_len _ _ _ _ (fun r hr => (hm.extra r hr).1) h3
  simp only [List.length_append]; omega
/-- A message's bytes, in their parts. -/
theorem encB_parts {m : Msg} {s : Bs} (h : encB m = some s) : ∃ b o, bodyW m = some b ∧ lastW m = some o ∧ 12 + b.1.length + o.length ≤ 65535 ∧ s = headW m.hd m.qs.length m.ans.length m.auth.length (m.extra.length + if m.has = true then 1 else 0) ++ (b.1 ++ o) := by
  unfold encB at h
  cases hb : bodyW m with
  | none => rw [hb] at h; cases h
  | some b =>
  rw [hb] at h; simp only at h
  cases ho : lastW m with
  | none => rw [ho] at h; cases h
  | some o =>
  rw [ho] at h; simp only at h
  split at h
  · cases h
  · exact ⟨b, o, rfl, rfl, by omega, (Option.some.inj h).symm⟩
theorem encN_ok {m : Msg} {s : Bs} (h : encN m = (0, s)) : mayM m = true ∧ encB m = some s := by
  unfold encN at h
  split at h
  · rename_i hm
    refine ⟨hm, ?_⟩
    cases hb : encB m with
    | none => rw [hb] at h; simp at h
    | some b => rw [hb] at h; simp only [Prod.mk.injEq, true_and] at h; rw [h]
  · simp at h
theorem encN_bad {m : Msg} (h : (encN m).1 ≠ 0) : (encN m).2 = [] ∧ ((encN m).1 = 3 ↔ mayM m = false) := by
  unfold encN at h ⊢
  split
  · rename_i hm
    rw [if_pos hm] at h
    cases hb : encB m with
    | none => rw [hm]; simp
    | some b => rw [hb] at h; simp at h
  · rename_i hm
    simp only [true_and, true_iff]
    simpa using hm
theorem enc_len {m : Msg} {s : Bs} (h : encN m = (0, s)) : mayM m = true ∧ 12 ≤ s.length ∧ s.length ≤ 65535 ∧ s.length ≤ wholeN m := by
  obtain ⟨hm, hb⟩ := encN_ok h
  obtain ⟨b, o, h1, h2, h3, rfl⟩ := encB_parts hb
  have e1 := bodyW_len (mayM_l hm) h1
  have e2 := lastW_len h2
  simp only [List.length_append, headW_len]
  unfold wholeN
  refine ⟨hm, by omega, by omega, by omega⟩
end Go.Proofs.YtpoebplhemimmaaGreatDoor
