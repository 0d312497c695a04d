/-
  Drawn regions with pure steps that may come ahead of a store, or behind it. Nothing is claimed here.
-/
import Derived.Test.YtcelgjabccgnmaaGreatDoorFlow
namespace Go.Proofs.YtcelgjabccgnmaaGreatDoor
open Go.RowKit
set_option linter.unusedVariables false
set_option linter.unusedSimpArgs false
/-! ### Steps that float: pure, ready some time, and taken ahead as soon as they are -/
section
variable {P : Program} {ops : Array Oper} {md : Region.Mode} {Q : Exit → Act → World → Prop}
def FlYield (P : Program) (ops : Array Oper) (N : Nat) (L : List (Nat × Value)) (w0 : World) (F : List (Nat × VP)) (o : Oper) (d : Nat) (p : VP) : Prop :=
  ∀ a w Lr, Ext w0 w → FrC N (L ++ Lr) a → (∀ k ∈ o.looksAt ops, ∀ q, lkF F k = some q → ∃ v, a.tmps[k]? = some v ∧ q v w) → ∃ v, Yields P ops o v a ∧ p v w ∧ Nat.blt d N = true
def wpYield (P : Program) (ops : Array Oper) (N : Nat) (L : List (Nat × Value)) (w0 : World) (K : List (Nat × VP) → Prop) : List Oper → List (Nat × VP) → Prop
  | [], F => K F
  | o :: rest, F => ∃ d p, o.dst = some d ∧ (∀ v w w', Ext w w' → p v w → p v w') ∧ FlYield P ops N L w0 F o d p ∧ wpYield P ops N L w0 K rest ((d, p) :: F)
def flowZB (md : Region.Mode) (ops : Array Oper) (listed : Array Bool) (fl lz : List Nat) : Bool :=
  ((fl ++ lz).all fun i => ((fl ++ lz).all fun j => i == j || dstAt ops i != dstAt ops j) && match ops[i]? with
    | none => false
    | some o => o.dst.isSome && !listed.getD i true && ((o.looksAt ops).all fun k => (fl ++ lz).all fun j => dstAt ops j != some k || waits md o j) &&
      (o.after.all fun e => !Region.binds md e || listed.getD e.on false || ((fl ++ lz).contains e.on && decide (e.on < i)))) &&
  ((List.range ops.size).all fun t => listed.getD t true || (fl ++ lz).contains t || match ops[t]? with
    | none => true
    | some o => (fl.all fun j => waits md o j || fl.any fun k => decide (j < k) && waitsAt md ops k j) || o.after.any fun e => Region.binds md e && !(fl ++ lz).contains e.on && !listed.getD e.on true) &&
  lz.all fun i => Region.free md ops (mark listed (fl.filter fun j => waitsAt md ops i j)) i
theorem free_more {listed listed' : Array Bool} {i : Nat} (h : Region.free md ops listed i = true) (hm : ∀ j, listed.getD j true = true → listed'.getD j true = true) : Region.free md ops listed' i = true := by
  unfold Region.free at *
  cases ho : ops[i]? with
  | none => rw [ho] at h; cases h
  | some o =>
    rw [ho] at h
    simp only [List.all_eq_true, List.mem_range, Bool.or_eq_true] at h ⊢
    intro j hj
    rcases h j hj with (h1 | h1) | h1
    · exact .inl (.inl h1)
    · exact .inl (.inr (hm j h1))
    · exact .inr h1
/-- What the walk of the middle shows. -/
theorem yield_facts {N : Nat} {L : List (Nat × Value)} {w0 : World} {K : List (Nat × VP) → Prop} : ∀ (is : List Nat) (F : List (Nat × VP)), (∀ i ∈ is, ∃ o, ops[i]? = some o) →
    (∀ i ∈ is, ∀ d, dstAt ops i = some d → lkF F d = none) → (is.Pairwise fun i j => dstAt ops i ≠ dstAt ops j) → wpYield P ops N L w0 K (pickL ops.toList is) F →
    ∃ G, K G ∧ (∀ k q, lkF F k = some q → lkF G k = some q) ∧ (∀ k q, lkF G k = some q → lkF F k = some q ∨ ∃ j ∈ is, dstAt ops j = some k) ∧
      ∀ i ∈ is, ∃ o d p F', ops[i]? = some o ∧ o.dst = some d ∧ (∀ v w w', Ext w w' → p v w → p v w') ∧ lkF G d = some p ∧ FlYield P ops N L w0 F' o d p ∧ (∀ k q, lkF F' k = some q → lkF G k = some q)
  | [], F, _, _, _, h => ⟨F, by simpa [pickL, wpYield] using h, fun _ _ h => h, fun _ _ h => .inl h, fun _ h => (List.not_mem_nil h).elim⟩
  | i :: is, F, ho, hd, hn, h => by
    obtain ⟨o, ho1⟩ := ho i (List.mem_cons_self ..)
    have ho2 : ops.toList[i]? = some o := by simpa using ho1
    unfold pickL at h
    rw [ho2] at h
    obtain ⟨d, p, hdst, hst, hstep, h⟩ := h
    have hda : dstAt ops i = some d := by simp [dstAt, ho1, hdst]
    obtain ⟨hn1, hn2⟩ := List.pairwise_cons.1 hn
    obtain ⟨G, hK, hG1, hG2, hG3⟩ := yield_facts is ((d, p) :: F) (fun j hj => ho j (List.mem_cons_of_mem _ hj)) (fun j hj e he => by
      have hne : d ≠ e := fun h => hn1 j hj (by rw [hda, he, h])
      simp only [lkF]
      rw [show (d == e) = false by simpa using hne]
      exact hd j (List.mem_cons_of_mem _ hj) e he) hn2 h
    have hFd : lkF F d = none := hd i (List.mem_cons_self ..) d hda
    have hsub : ∀ k q, lkF F k = some q → lkF G k = some q := fun k q hq => hG1 k q (by
      have hne : d ≠ k := fun e => by subst e; rw [hFd] at hq; cases hq
      simp only [lkF]; rw [show (d == k) = false by simpa using hne]; exact hq)
    have hGd : lkF G d = some p := hG1 d p (by simp [lkF])
    refine ⟨G, hK, hsub, fun k q hq => ?_, fun j hj => ?_⟩
    · rcases hG2 k q hq with h | ⟨j, hj, h⟩
      · by_cases hne : d = k
        · subst hne; exact .inr ⟨i, List.mem_cons_self .., hda⟩
        · simp only [lkF] at h; rw [show (d == k) = false by simpa using hne] at h; exact .inl h
      · exact .inr ⟨j, List.mem_cons_of_mem _ hj, h⟩
    · rcases List.mem_cons.1 hj with rfl | hj
      · exact ⟨o, d, p, F, ho1, hdst, hst, hGd, hstep, hsub⟩
      · exact hG3 j hj


theorem wpAny_flowz {N : Nat} {L : List (Nat × Value)} {w0 w1 : World} {a1 : Act} {fuel : Nat} {listed : Array Bool} {fl lz : List Nat} (hns : Region.noSelect ops = true) (hB : flowZB md ops listed fl lz = true)
    (hsz : listed.size = ops.size) (hdup : (fl ++ lz).Nodup) (hL : ∀ k ∈ (fl ++ lz).filterMap (dstAt ops), lk L k = none) (hF1 : Fr N L a1) (hE1 : Ext w0 w1)
    (h : wpFlow P ops N L w0 (fun F => wpYield P ops N L w0 (fun F => ∀ a w, Ext w0 w → Fr N L a → Holds F a w → wpAny P md ops (Only Q) fuel (mark listed (fl ++ lz)) a w) (pickL ops.toList lz) F) (pickL ops.toList fl) []) :
    wpAny P md ops (Only Q) ((fl ++ lz).length + fuel) listed a1 w1 := by
  simp only [flowZB, Bool.and_eq_true] at hB
  obtain ⟨⟨hB1, hB2⟩, hB3⟩ := hB
  obtain ⟨al, hal⟩ : ∃ al, al = fl ++ lz := ⟨_, rfl⟩
  rw [← hal] at hB1 hB2 hdup hL h ⊢
  have hfa : ∀ i ∈ fl, i ∈ al := fun i hi => by rw [hal]; exact List.mem_append_left _ hi
  have hza : ∀ i ∈ lz, i ∈ al := fun i hi => by rw [hal]; exact List.mem_append_right _ hi
  have hB1' : ∀ i ∈ al, (∀ j ∈ al, i = j ∨ dstAt ops i ≠ dstAt ops j) ∧ ∃ o, ops[i]? = some o ∧ o.dst.isSome ∧ listed.getD i true = false ∧
      (∀ k ∈ o.looksAt ops, ∀ j ∈ al, dstAt ops j ≠ some k ∨ waits md o j = true) ∧ ∀ e ∈ o.after, Region.binds md e = true → listed.getD e.on false = true ∨ (e.on ∈ al ∧ e.on < i) := by
    intro i hi
    have := List.all_eq_true.1 hB1 i hi
    simp only [Bool.and_eq_true, List.all_eq_true, Bool.or_eq_true, beq_iff_eq, bne_iff_ne] at this
    obtain ⟨h1, h2⟩ := this
    refine ⟨h1, ?_⟩
    cases ho : ops[i]? with
    | none => simp [ho] at h2
    | some o =>
      simp only [ho, Bool.and_eq_true, List.all_eq_true, Bool.or_eq_true, bne_iff_ne, Bool.not_eq_true'] at h2
      obtain ⟨⟨⟨h3, h4⟩, h5⟩, h6⟩ := h2
      refine ⟨o, rfl, h3, h4, h5, fun e he hb => ?_⟩
      have h7 := Array.all_eq_true_iff_forall_mem.1 h6 e he
      simp only [hb, Bool.not_true, Bool.false_or, Bool.or_eq_true, Bool.and_eq_true, decide_eq_true_eq, List.contains_iff_mem] at h7
      exact h7
  have hpw : al.Pairwise fun i j => dstAt ops i ≠ dstAt ops j := by
    refine List.Pairwise.imp_of_mem ?_ hdup
    intro i j hi hj hne
    exact ((hB1' i hi).1 j hj).resolve_left hne
  have hpw2 := hpw
  rw [hal, List.pairwise_append] at hpw2
  obtain ⟨G1, hK1, _, hG12, hG13⟩ := flow_facts fl [] (fun i hi => let ⟨_, o, ho, _⟩ := hB1' i (hfa i hi); ⟨o, ho⟩) (fun _ _ _ _ => rfl) hpw2.1 h
  obtain ⟨G, hK, hGs, hG22, hY3⟩ := yield_facts lz G1 (fun i hi => let ⟨_, o, ho, _⟩ := hB1' i (hza i hi); ⟨o, ho⟩) (fun i hi d hd => by
    cases hq : lkF G1 d with
    | none => rfl
    | some q =>
      rcases hG12 d q hq with h | ⟨j, hj, h⟩
      · cases h
      · exact (hpw2.2.2 j hj i hi (by rw [h, hd])).elim) hpw2.2.1 hK1
  have hG2 : ∀ k q, lkF G k = some q → lkF ([] : List (Nat × VP)) k = some q ∨ ∃ j ∈ al, dstAt ops j = some k := by
    intro k q hq
    rcases hG22 k q hq with h | ⟨j, hj, h⟩
    · rcases hG12 k q h with h | ⟨j, hj, h⟩
      · exact .inl h
      · exact .inr ⟨j, hfa j hj, h⟩
    · exact .inr ⟨j, hza j hj, h⟩
  have hG3 : ∀ i ∈ fl, ∃ o d p F', ops[i]? = some o ∧ o.dst = some d ∧ (∀ v w w', Ext w w' → p v w → p v w') ∧ lkF G d = some p ∧ FlStep P ops N L w0 F' o d p ∧ (∀ k q, lkF F' k = some q → lkF G k = some q) := by
    intro i hi
    obtain ⟨o, d, p, F', h1, h2, h3, h4, h5, h6⟩ := hG13 i hi
    exact ⟨o, d, p, F', h1, h2, h3, hGs _ _ h4, h5, fun k q hq => hGs _ _ (h6 k q hq)⟩
  have hA3 : ∀ i ∈ al, ∃ o d p, ops[i]? = some o ∧ o.dst = some d ∧ (∀ v w w', Ext w w' → p v w → p v w') ∧ lkF G d = some p := by
    intro i hi
    rw [hal] at hi
    rcases List.mem_append.1 hi with hi | hi
    · obtain ⟨o, d, p, _, h1, h2, h3, h4, _⟩ := hG3 i hi; exact ⟨o, d, p, h1, h2, h3, h4⟩
    · obtain ⟨o, d, p, _, h1, h2, h3, h4, _⟩ := hY3 i hi; exact ⟨o, d, p, h1, h2, h3, h4⟩
  have hdst : ∀ i ∈ al, ∀ d, dstAt ops i = some d → lk L d = none := fun i hi d hd => hL d (List.mem_filterMap.2 ⟨i, hi, hd⟩)
  -- the state: what is done, what is left
  have go : ∀ (n : Nat) (done rem : List Nat), rem.length = n → (done ++ rem).Perm al → ∀ a w, Ext w0 w → Fr N L a →
      (∀ j ∈ done, ∀ d, dstAt ops j = some d → ∀ q, lkF G d = some q → ∃ v, a.tmps[d]? = some v ∧ q v w) → (∀ k ∈ done, ∀ j ∈ al, waitsAt md ops k j = true → j ∈ done) → wpAny P md ops (Only Q) (n + fuel) (mark listed done) a w := by
    intro n
    induction n with
    | zero =>
      intro done rem hr hp a w hE hF hd hcl
      have : rem = [] := List.eq_nil_of_length_eq_zero hr
      subst this
      rw [List.append_nil] at hp
      rw [Nat.zero_add, mark_perm listed hp]
      refine hK a w hE hF fun k q hq => ?_
      rcases hG2 k q hq with h | ⟨j, hj, h⟩
      · cases h
      · exact hd j (hp.mem_iff.2 hj) k h q hq
    | succ n ih =>
      intro done rem hr hp a w hE hF hd hcl
      have hnd : (done ++ rem).Nodup := hp.nodup_iff.2 hdup
      have hunl : ∀ i, i ∈ rem → (mark listed done).getD i true = false := by
        intro i hi
        have hf : i ∈ al := hp.mem_iff.1 (List.mem_append_right _ hi)
        obtain ⟨_, o, ho, _, h4, _⟩ := hB1' i hf
        have hnot : i ∉ done := fun hx => (List.nodup_append.1 hnd).2.2 i hx i hi rfl
        rw [Array.getD_eq_getD_getElem?, mark_get, if_neg (fun hx => hnot hx.1), ← Array.getD_eq_getD_getElem?]; exact h4
      have hlis : ∀ j, listed.getD j false = true ∨ j ∈ done → j < ops.size → (mark listed done).getD j false = true := by
        intro j hj hlt
        rw [Array.getD_eq_getD_getElem?, mark_get]
        rcases hj with hj | hj
        · split
          · rfl
          · rwa [← Array.getD_eq_getD_getElem?]
        · rw [if_pos ⟨hj, by omega⟩]; rfl
      have hne : rem ≠ [] := fun e => by subst e; cases hr
      have hFC : FrC N (L ++ argsFrom 0 a.tmps.toList) a := by
        refine ⟨?_, ?_⟩
        · refine ⟨hF.size, hF.defers, fun {k u} hk => ?_⟩
          rw [lk_append] at hk
          cases hl : lk L k with
          | some y => rw [hl] at hk; cases hk; exact hF.lk hl
          | none =>
            rw [hl] at hk
            have := (lk_argsFrom (show lk (argsFrom 0 a.tmps.toList) k = some u by simpa using hk)).2
            simpa using this
        · intro k v hv
          rw [lk_append]
          cases hl : lk L k with
          | some y => have := hF.lk hl; rw [hv] at this; cases this; rfl
          | none =>
          rw [Option.none_or]
          have : ∀ (vs : List Value) (i : Nat), vs[k]? = some v → lk (argsFrom i vs) (i + k) = some v := by
            clear hv hl
            intro vs
            induction vs generalizing k with
            | nil => intro i h; simp at h
            | cons x vs ih =>
              intro i h
              cases k with
              | zero => simp at h; subst h; simp [argsFrom, lk]
              | succ k =>
                simp at h
                have := ih (i + 1) h
                simp only [argsFrom, lk]
                rw [show (i == i + (k + 1)) = false by simp, show i + (k + 1) = i + 1 + k by omega]
                exact this
          have := this a.tmps.toList 0 (by simpa using hv)
          rwa [Nat.zero_add] at this
      have hnext : ∀ i ∈ Region.ready md ops (mark listed done), i ∈ rem → ∀ o d p, ops[i]? = some o → o.dst = some d → lkF G d = some p →
          ∀ a' w', (Same N (some d) a a' ∧ Ext w w' ∧ ∃ v, a'.tmps[d]? = some v ∧ p v w') → wpAny P md ops (Only Q) (n + fuel) ((mark listed done).setIfInBounds i true) a' w' := by
        intro i hi hir o d p ho hd' hGd
        have hf : i ∈ al := hp.mem_iff.1 (List.mem_append_right _ hir)
        have hdi : dstAt ops i = some d := by simp [dstAt, ho, hd']
        obtain ⟨_, o'', ho'', hrdy⟩ := mem_ready.1 hi
        rw [ho] at ho''; cases ho''
        rintro a' w' ⟨⟨hs1, hs2, hs3⟩, hE', v, hv, hpv⟩
        rw [← mark_snoc]
        have hperm : rem.Perm (i :: rem.erase i) := List.perm_cons_erase hir
        refine ih (done ++ [i]) (rem.erase i) (by rw [List.length_erase_of_mem hir]; omega) ?_ a' w' (hE.trans hE') ⟨hs1, hs2, fun {k u} hk => ?_⟩ ?_ ?_
        · refine List.Perm.trans ?_ hp
          rw [List.append_assoc]
          exact List.Perm.append_left _ hperm.symm
        · rw [hs3 k (fun e => by cases e; rw [hdst i hf d hdi] at hk; cases hk)]
          exact hF.lk hk
        · intro j hj e he q hq
          rcases List.mem_append.1 hj with hj1 | hj
          · have hj := hj1
            have hjf : j ∈ al := hp.mem_iff.1 (List.mem_append_left _ hj)
            have hne : j ≠ i := fun e => (List.nodup_append.1 hnd).2.2 j hj1 i hir e
            have hde : e ≠ d := fun h => by
              rcases (hB1' j hjf).1 i hf with h' | h'
              · exact hne h'
              · exact h' (by rw [he, hdi, h])
            obtain ⟨u, hu, hq'⟩ := hd j hj e he q hq
            obtain ⟨_, d2, p2, ho2, hd2, hst2, hG2'⟩ := hA3 j hjf
            have : e = d2 := by
              have : dstAt ops j = some d2 := by simp [dstAt, ho2, hd2]
              rw [he] at this; exact Option.some.inj this
            subst this
            rw [hG2'] at hq; cases hq
            refine ⟨u, ?_, hst2 _ _ _ hE' hq'⟩
            rw [hs3 e (fun h => hde (Option.some.inj h).symm)]; exact hu
          · rw [List.mem_singleton.1 hj, hdi] at he
            cases he
            rw [hGd] at hq; cases hq
            exact ⟨v, hv, hpv⟩
        · intro k hk j hj hw
          rcases List.mem_append.1 hk with hk | hk
          · exact List.mem_append_left _ (hcl k hk j hj hw)
          · rw [List.mem_singleton.1 hk] at hw
            simp only [waitsAt, ho] at hw
            obtain ⟨e, he, hb, rfl⟩ := waits_spec hw
            have h1 := hrdy e he hb
            rcases List.mem_append.1 (hp.mem_iff.2 hj) with hx | hx
            · exact List.mem_append_left _ hx
            · have h5 := hunl _ hx
              have h6 : e.on < (mark listed done).size := by
                by_cases hx : e.on < (mark listed done).size
                · exact hx
                · simp [hx] at h1
              simp [h6] at h1 h5
              rw [h1] at h5; cases h5

      have hlook2 : ∀ i ∈ Region.ready md ops (mark listed done), i ∈ rem → ∀ o F', ops[i]? = some o → (∀ k q, lkF F' k = some q → lkF G k = some q) →
          ∀ k ∈ o.looksAt ops, ∀ q, lkF F' k = some q → ∃ v, a.tmps[k]? = some v ∧ q v w := by
        intro i hi hir o F' ho hsub
        have hf : i ∈ al := hp.mem_iff.1 (List.mem_append_right _ hir)
        obtain ⟨_, o2, ho2, _, _, hlook, _⟩ := hB1' i hf
        rw [ho] at ho2; cases ho2
        obtain ⟨_, o'', ho'', hrdy⟩ := mem_ready.1 hi
        rw [ho] at ho''; cases ho''
        intro k hk q hq
        have hGk := hsub k q hq
        rcases hG2 k q hGk with h' | ⟨j, hj, hdj'⟩
        · cases h'
        · rcases hlook k hk j hj with h' | h'
          · exact (h' hdj').elim
          · obtain ⟨e, he, hb, rfl⟩ := waits_spec h'
            have h1 := hrdy e he hb
            have hjd : e.on ∈ done := by
              rcases List.mem_append.1 (hp.mem_iff.2 hj) with hx | hx
              · exact hx
              · have h5 := hunl _ hx
                have h6 : e.on < (mark listed done).size := by
                  by_cases hx : e.on < (mark listed done).size
                  · exact hx
                  · simp [hx] at h1
                simp [h6] at h1 h5
                rw [h1] at h5; cases h5
            exact hd _ hjd k hdj' q hGk
      have hmin : ∃ m ∈ rem, m ∈ Region.ready md ops (mark listed done) := by
        obtain ⟨m, hm, hmin⟩ := exists_min rem hne
        refine ⟨m, hm, ?_⟩
        have hf : m ∈ al := hp.mem_iff.1 (List.mem_append_right _ hm)
        obtain ⟨_, o, ho, _, h4, _, h6⟩ := hB1' m hf
        exact mem_ready.2 ⟨hunl m hm, o, ho, fun e he hb => by
          rcases h6 e he hb with h | ⟨h, hlt⟩
          · by_cases hx : e.on < ops.size
            · exact hlis _ (.inl h) hx
            · have : ¬ e.on < listed.size := by omega
              simp [this] at h
          · obtain ⟨_, o', ho', _⟩ := hB1' _ h
            have hx : e.on < ops.size := (Array.getElem?_eq_some_iff.1 ho').1
            rcases List.mem_append.1 (hp.mem_iff.2 h) with hy | hy
            · exact hlis _ (.inr hy) hx
            · have := hmin _ hy; omega⟩
      rw [show n + 1 + fuel = (n + fuel) + 1 by omega]
      by_cases hz : ∃ i ∈ rem, i ∈ lz ∧ i ∈ Region.ready md ops (mark listed done)
      · obtain ⟨i, hir, hil, hi⟩ := hz
        obtain ⟨o, d, p, F', ho, hd', hst, hGd, hstep, hsub⟩ := hY3 i hil
        obtain ⟨v, hy, hpv, hdN⟩ := hstep a w _ hE hFC (hlook2 i hi hir o F' ho hsub)
        have hfr := free_more (listed' := mark listed done) (List.all_eq_true.1 hB3 i hil) fun j hj => by
          obtain ⟨_, o2, ho2, hrdy⟩ := mem_ready.1 hi
          rw [Array.getD_eq_getD_getElem?, mark_get] at hj
          rw [Array.getD_eq_getD_getElem?, mark_get]
          split
          · rfl
          · rename_i hnd
            split at hj
            · rename_i hjf
              have hw := (List.mem_filter.1 hjf.1).2
              simp only [waitsAt, ho2] at hw
              obtain ⟨e, he, hb, rfl⟩ := waits_spec hw
              have h1 := hrdy e he hb
              rw [Array.getD_eq_getD_getElem?, mark_get, if_neg hnd] at h1
              cases hx : listed[e.on]? with
              | none => rfl
              | some b => rw [hx] at h1; simpa using h1
            · exact hj
        refine wpAny_pull hns ho (by rw [List.contains_iff_mem.2 hi, hfr]; rfl) hy ?_
        rw [hd']
        have hdlt : d < a.tmps.size := by rw [hF.size]; simpa [Nat.blt_eq] using hdN
        exact hnext i hi hir o d p ho hd' hGd _ _ ⟨⟨by simp [Act.put, hF.size], hF.defers, fun k hk => by
          have : d ≠ k := fun e => hk (by rw [e])
          simp [Act.put, Array.getElem?_setIfInBounds, this]⟩, Ext.refl _, v, by simp [Act.put, hdlt], hpv⟩
      have step : ∀ i ∈ Region.ready md ops (mark listed done), i ∈ rem ∧ i ∈ fl := by
        intro i hi
        have hir : i ∈ rem := by
          obtain ⟨h1, o, ho, h2⟩ := mem_ready.1 hi
          have hlt : i < ops.size := (Array.getElem?_eq_some_iff.1 ho).1
          have h3 := List.all_eq_true.1 hB2 i (List.mem_range.2 hlt)
          simp only [ho, Bool.or_eq_true, List.contains_iff_mem, List.all_eq_true] at h3
          by_cases hfl : i ∈ al
          · rcases List.mem_append.1 (hp.mem_iff.2 hfl) with hx | hx
            · have hs : i < listed.size := by omega
              rw [Array.getD_eq_getD_getElem?, mark_get, if_pos ⟨hx, hs⟩] at h1
              cases h1
            · exact hx
          · rcases h3 with (h3 | h3) | h3
            · have hnd' : i ∉ done := fun hx => hfl (hp.mem_iff.1 (List.mem_append_left _ hx))
              rw [Array.getD_eq_getD_getElem?, mark_get, if_neg (fun hx => hnd' hx.1), ← Array.getD_eq_getD_getElem?, h3] at h1
              cases h1
            · exact (hfl h3).elim
            rcases h3 with h3 | h3
            rotate_left
            · obtain ⟨e, he, hb⟩ := Array.any_eq_true'.1 h3
              simp only [Bool.and_eq_true, Bool.not_eq_true'] at hb
              obtain ⟨⟨hb1, hb2⟩, hb3⟩ := hb
              have h4 := h2 e he hb1
              have hnf : e.on ∉ al := fun h => by rw [List.contains_iff_mem.2 h] at hb2; cases hb2
              have hnd' : e.on ∉ done := fun hx => hnf (hp.mem_iff.1 (List.mem_append_left _ hx))
              rw [Array.getD_eq_getD_getElem?, mark_get, if_neg (fun hx => hnd' hx.1), ← Array.getD_eq_getD_getElem?] at h4
              have hlt' : e.on < listed.size := by
                by_cases hx : e.on < listed.size
                · exact hx
                · simp [hx] at h4
              simp [hlt'] at hb3 h4
              rw [h4] at hb3; cases hb3
            · obtain ⟨m0, hm0, hr0⟩ := hmin
              have hm0f : m0 ∈ fl := by
                have := hp.mem_iff.1 (List.mem_append_right _ hm0)
                rw [hal] at this
                exact (List.mem_append.1 this).resolve_right fun h => hz ⟨m0, hm0, h, hr0⟩
              obtain ⟨m, hm', hmax'⟩ := exists_max (rem.filter (fl.contains ·)) (fun e => by
                have : m0 ∈ rem.filter (fl.contains ·) := List.mem_filter.2 ⟨hm0, List.contains_iff_mem.2 hm0f⟩
                rw [e] at this; cases this)
              obtain ⟨hm, hmf⟩ := List.mem_filter.1 hm'
              have hmax : ∀ x ∈ rem, x ∈ fl → x ≤ m := fun x hx hxf => hmax' x (List.mem_filter.2 ⟨hx, List.contains_iff_mem.2 hxf⟩)
              have hw : waits md o m = true := by
                rcases h3 m (List.contains_iff_mem.1 hmf) with h | h
                · exact h
                · obtain ⟨k, hk, h⟩ := List.any_eq_true.1 h
                  simp only [Bool.and_eq_true, decide_eq_true_eq] at h
                  rcases List.mem_append.1 (hp.mem_iff.2 (hfa k hk)) with hx | hx
                  · have := hcl k hx m (hp.mem_iff.1 (List.mem_append_right _ hm)) h.2
                    exact ((List.nodup_append.1 hnd).2.2 m this m hm rfl).elim
                  · have := hmax k hx hk; omega
              obtain ⟨e, he, hb, rfl⟩ := waits_spec hw
              have h4 := h2 e he hb
              have h5 := hunl _ hm
              have h6 : e.on < (mark listed done).size := by
                by_cases hx : e.on < (mark listed done).size
                · exact hx
                · simp [hx] at h4
              simp [h6] at h4 h5
              rw [h4] at h5; cases h5
        refine ⟨hir, ?_⟩
        have := hp.mem_iff.1 (List.mem_append_right _ hir)
        rw [hal] at this
        exact (List.mem_append.1 this).resolve_right fun h => hz ⟨i, hir, h, hi⟩
      refine ⟨fun h0 => ?_, fun i hi => ?_⟩
      · obtain ⟨m, _, hm⟩ := hmin
        rw [h0] at hm; exact (List.not_mem_nil hm).elim
      · obtain ⟨hir, hif⟩ := step i hi
        obtain ⟨o, d, p, F', ho, hd', hst, hGd, hstep, hsub⟩ := hG3 i hif
        have hlast := hnext i hi hir o d p ho hd' hGd
        have hwp := hstep a w _ hE hFC (hlook2 i hi hir o F' ho hsub)
        unfold wpOp
        rw [ho]
        unfold wpList at hwp
        simp only at hwp ⊢
        split
        · rename_i hw
          rw [if_pos hw] at hwp
          rcases hwp with hwp | ⟨_, hwp⟩
          · exact .inl (wp_only (fun a' w' hh => hlast a' w' hh) hwp)
          · exact (not_letsOut hwp).elim
        · rename_i hw
          rw [if_neg hw] at hwp
          exact hlast _ _ hwp
  exact go al.length [] al rfl (List.Perm.refl _) a1 w1 hE1 hF1 (fun _ h => (List.not_mem_nil h).elim) (fun _ h => (List.not_mem_nil h).elim)
end
section
variable {P : Program} {Q : Exit → Act → World → Prop} {a : Act} {w : World} {N dd : Nat} {L : List (Nat × Value)} {ops : Array Oper} {rest : List Oper} {o : Oper} {v : Value}
theorem wpFlow_mono {w0 : World} : ∀ (os : List Oper) (F : List (Nat × VP)) {K K' : List (Nat × VP) → Prop}, (∀ F, K F → K' F) → wpFlow P ops N L w0 K os F → wpFlow P ops N L w0 K' os F
  | [], F, _, _, hK, h => hK _ h
  | o :: os, F, _, _, hK, ⟨d, p, h1, h2, h3, h4⟩ => ⟨d, p, h1, h2, h3, wpFlow_mono os _ hK h4⟩
theorem wpYield_mono {w0 : World} : ∀ (os : List Oper) (F : List (Nat × VP)) {K K' : List (Nat × VP) → Prop}, (∀ F, K F → K' F) → wpYield P ops N L w0 K os F → wpYield P ops N L w0 K' os F
  | [], F, _, _, hK, h => hK _ h
  | o :: os, F, _, _, hK, ⟨d, p, h1, h2, h3, h4⟩ => ⟨d, p, h1, h2, h3, wpYield_mono os _ hK h4⟩
def drawZ (ops : Array Oper) (pl fl lz tl el : List Nat) : Bool :=
  Region.noSelect ops && pullB .any ops (Array.replicate ops.size false) pl && flowZB .any ops (mark (Array.replicate ops.size false) pl) fl lz &&
  seqB .any ops (mark (mark (Array.replicate ops.size false) pl) (fl ++ lz)) tl && decide (fl ++ lz).Nodup && decide (pl.length + (fl ++ lz).length + tl.length + el.length = ops.size) &&
  pullB .any ops (mark (mark (mark (Array.replicate ops.size false) pl) (fl ++ lz)) tl) el && (Region.ready .any ops (mark (mark (mark (mark (Array.replicate ops.size false) pl) (fl ++ lz)) tl) el)).isEmpty
def FlGoZ (P : Program) (l : List Oper) (Q : Exit → Act → World → Prop) (w : World) (pl fl lz tl el : List Nat) (a : Act) : Prop :=
  wpAny P .any l.toArray (Only Q) ((fl ++ lz).length + (tl.length + el.length)) (mark (Array.replicate l.toArray.size false) pl) a { w with drawn := w.drawn + 1 }
theorem c_flowz {id : Nat} {l : List Oper} (pl fl lz tl el : List Nat) (hm : P.follows .mixedOrders = true) (hB : drawZ l.toArray pl fl lz tl el = true)
    (h : drawZ l.toArray pl fl lz tl el = true → wpPull P l.toArray (FlGoZ P l Q w pl fl lz tl el) (pickL l pl) a) : (Code.region id l.toArray true).wp P Q a w := by
  replace h := h hB
  simp only [drawZ, Bool.and_eq_true, decide_eq_true_eq] at hB
  obtain ⟨⟨⟨⟨⟨⟨⟨h1, h2⟩, h3⟩, h4⟩, h5⟩, h6⟩, h7⟩, h8⟩ := hB
  refine wp_region_any hm (wpAny_only _ _ _ _ ?_)
  rw [show l.toArray.size = pl.length + ((fl ++ lz).length + (tl.length + el.length)) by omega]
  have := wpAny_pulls (Q := Q) h1 (fuel := (fl ++ lz).length + (tl.length + el.length)) (w := { w with drawn := w.drawn + 1 }) pl (Array.replicate l.toArray.size false) a h2 h
  rwa [show l.toArray.size = pl.length + ((fl ++ lz).length + (tl.length + el.length)) by omega] at this
theorem fl_startz {l : List Oper} {pl fl lz tl el : List Nat} (ds : List Nat) (hB : drawZ l.toArray pl fl lz tl el = true) (hds : ((fl ++ lz).filterMap (dstAt l.toArray)).all (fun k => hasN ds k) = true) (hF : Fr N L a)
    (h : wpFlow P l.toArray N (wo ds L) w (fun F => wpYield P l.toArray N (wo ds L) w (fun F => ∀ a w', Ext w w' → Fr N (wo ds L) a → Holds F a w' → wpList P l.toArray (Only (FlEnd P l Q el)) (pickL l tl) a w') (pickL l lz) F) (pickL l fl) []) : FlGoZ P l Q w pl fl lz tl el a := by
  simp only [drawZ, Bool.and_eq_true, decide_eq_true_eq] at hB
  obtain ⟨⟨⟨⟨⟨⟨⟨h1, h2⟩, h3⟩, h4⟩, h5⟩, h6⟩, h7⟩, h8⟩ := hB
  have hx : Ext w { w with drawn := w.drawn + 1 } := ⟨rfl, rfl, rfl, Nat.le_refl _, fun _ _ => rfl⟩
  refine wpAny_flowz (L := Proofs.YtcelgjabccgnmaaGreatDoor.wo ds L) (w0 := w) h1 h3 (by rw [mark_size]; simp) h5 (fun k hk => ?_) hF.wo hx ?_
  · rw [lk_wo, if_pos (List.all_eq_true.1 hds k hk)]
  · refine wpFlow_mono _ _ (fun F hY => wpYield_mono _ _ (fun F hK a w' hE hF hH => wpAny_seq tl _ a w' h4 ?_ (hK a w' hE hF hH)) hY) h
    intro a2 w2 hq
    have := wpAny_pulls (Q := Q) h1 (fuel := 0) (w := w2) el _ a2 h7 (by
      refine wpPull_mono _ _ (fun a' h => ?_) hq
      exact ⟨by simpa using h8, h⟩)
    simpa using this
/-- A step that floats. -/
theorem fy {F : List (Nat × VP)} {w0 : World} {K : List (Nat × VP) → Prop} (p : VP) (hdst : o.dst = some dd) (hst : ∀ v w w', Ext w w' → p v w → p v w') (hs : FlYield P ops N L w0 F o dd p)
    (h : wpYield P ops N L w0 K rest ((dd, p) :: F)) : wpYield P ops N L w0 K (o :: rest) F := ⟨dd, p, hdst, hst, hs, h⟩
theorem y_of {p : VP} (hg : o.guard = none) (hd : Nat.blt dd N = true) (hn : noSkip o.op = true) (hr : ∀ w, Does P o a w v w) (hp : p v w) : ∃ v, Yields P ops o v a ∧ p v w ∧ Nat.blt dd N = true :=
  ⟨v, yields_does (N := N) (dd := dd) hg hn hr, hp, hd⟩
end
end Go.Proofs.YtcelgjabccgnmaaGreatDoor
