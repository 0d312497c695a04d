/-
  A message's bytes are read back as it. No program is in sight here.
-/
import Derived.Test.YtpoebplhemimmaaGreatDoorWLen
namespace Go.Proofs.YtpoebplhemimmaaGreatDoor
set_option linter.unusedVariables false
set_option linter.unusedSimpArgs false

/-! ### Data -/
theorem data_back {c : Bool} {d : Bs} : ∀ (xs : List Part), (∀ x ∈ xs, (∃ n, x = .fixed n) ∨ x = .named) → ∀ (p : Nat) (ps0 : Pieces) (e : Nat) (r : Pieces), doParts d true xs p ps0 = (0, e, r) →
    ∃ q, r = ps0 ++ q ∧ ∀ (P : Bs) (t : Tab) (acc : Pieces), TabOk P t → doParts (P ++ (dataW c q P.length t).1) false xs P.length acc = (0, (P ++ (dataW c q P.length t).1).length, acc ++ q) ∧ TabOk (P ++ (dataW c q P.length t).1) (dataW c q P.length t).2
  | [], _, p, ps0, e, r, h => by
    simp only [doParts, Prod.mk.injEq, true_and] at h
    exact ⟨[], by rw [List.append_nil]; exact h.2.symm, fun P t acc ht => by simp only [dataW, List.append_nil, doParts]; exact ⟨trivial, ht⟩⟩
  | x :: xs, hx, p, ps0, e, r, h => by
    have hxs : ∀ x ∈ xs, (∃ n, x = .fixed n) ∨ x = .named := fun y hy => hx y (List.mem_cons_of_mem _ hy)
    rcases hx x List.mem_cons_self with ⟨n, rfl⟩ | rfl
    · rw [doParts, doPart] at h
      split at h
      · rename_i heq
        split at heq
        · simp at heq
        · rename_i hn
          simp only [Prod.mk.injEq, true_and] at heq
          obtain ⟨rfl, rfl⟩ := heq
          obtain ⟨q, hr, hq⟩ := data_back xs hxs _ _ _ _ h
          have hl : ((d.drop p).take n).length = n := by rw [List.length_take, List.length_drop]; omega
          refine ⟨((d.drop p).take n, false) :: q, by rw [hr, List.append_assoc]; rfl, fun P t acc ht => ?_⟩
          have h1 := hq (P ++ (d.drop p).take n) t (acc ++ [((d.drop p).take n, false)]) (ht.mono _)
          rw [List.length_append, hl] at h1
          rw [dataW_plain, ← List.append_assoc, hl]
          refine ⟨?_, h1.2⟩
          rw [doParts, doPart, if_neg (by simp only [List.length_append, hl]; omega)]
          simp only
          rw [show ((P ++ (d.drop p).take n ++ (dataW c q (P.length + n) t).1).drop P.length).take n = (d.drop p).take n by
            rw [List.append_assoc, List.drop_left, List.take_append_of_le_length (by omega), List.take_of_length_le (by omega)], h1.1]
          simp
      · rename_i hne
        exact absurd (congrArg Prod.fst h) (by
          intro h0
          refine hne e r ?_
          rw [h])
    · rw [doParts, doPart] at h
      split at h
      · rename_i heq
        split at heq
        · rename_i h1; simp only [Prod.mk.injEq] at heq; exact absurd heq.1 h1
        · rename_i h1
          split at heq
          · simp at heq
          · simp only [Prod.mk.injEq, true_and] at heq
            obtain ⟨rfl, rfl⟩ := heq
            obtain ⟨q, hr, hq⟩ := data_back xs hxs _ _ _ _ h
            have hm : mayB (readAt d p).2.1 = true := readAt_may (Decidable.not_not.1 h1)
            refine ⟨((readAt d p).2.1, true) :: q, by rw [hr, List.append_assoc]; rfl, fun P t acc ht => ?_⟩
            obtain ⟨h2, h3⟩ := nmW_ok (cmp := c) (kn := c) hm ht
            have h4 := hq (P ++ (nmW c c (readAt d p).2.1 P.length t).1) (nmW c c (readAt d p).2.1 P.length t).2 (acc ++ [((readAt d p).2.1, true)]) h3
            rw [List.length_append] at h4
            rw [dataW_named, ← List.append_assoc]
            refine ⟨?_, h4.2⟩
            have h5 := reads_readAt (h2.mono (dataW c q (P.length + (nmW c c (readAt d p).2.1 P.length t).1.length) (nmW c c (readAt d p).2.1 P.length t).2).1) (may_len hm)
            rw [doParts, doPart, h5, if_neg (by simp), if_neg (by simp)]
            simp only
            rw [h4.1]
            simp
      · rename_i hne
        exact absurd (congrArg Prod.fst h) (by
          intro h0
          refine hne e r ?_
          rw [h])
theorem texts_back {d : Bs} : ∀ (f p : Nat) (ps0 : Pieces) (e : Nat) (r : Pieces), textsG d f p ps0 = (0, e, r) → ∃ q : Pieces, r = ps0 ++ q ∧ e = d.length ∧ (∀ x ∈ q, x.2 = false) ∧
    ∀ (P : Bs) (f' : Nat) (acc : Pieces), f ≤ f' → textsG (P ++ d.drop p) f' P.length acc = (0, P.length + (d.length - p), acc ++ q)
  | 0, p, ps0, e, r, h => by simp [textsG] at h
  | f + 1, p, ps0, e, r, h => by
    rw [textsG] at h
    split at h
    · simp at h
    rename_i h1
    split at h
    · simp at h
    rename_i h2
    have hp0 : ∀ P : Bs, (P ++ d.drop p).getD P.length 0 = d.getD p 0 := fun P => by
      rw [List.getD_eq_getElem?_getD, List.getD_eq_getElem?_getD, List.getElem?_append_right (Nat.le_refl _), Nat.sub_self, List.getElem?_drop]; rfl
    have hch : ∀ P : Bs, ((P ++ d.drop p).take (P.length + 1 + (d.getD p 0).toNat)).drop P.length = (d.take (p + 1 + (d.getD p 0).toNat)).drop p := fun P => by
      rw [List.drop_take, List.drop_left, List.drop_take]
      congr 1; omega
    split at h
    · rename_i h3
      simp only [Prod.mk.injEq, true_and] at h
      obtain ⟨rfl, rfl⟩ := h
      refine ⟨_, rfl, by omega, fun x hx => by rw [List.mem_singleton.1 hx], fun P f' acc hf => ?_⟩
      obtain ⟨g, rfl⟩ : ∃ g, f' = g + 1 := ⟨f' - 1, by omega⟩
      rw [textsG, if_neg (by rw [List.length_append, List.length_drop]; omega), hp0, if_neg (by rw [List.length_append, List.length_drop]; omega), if_pos (by rw [List.length_append, List.length_drop]; omega), hch]
      simp only [Prod.mk.injEq, true_and, and_true]; omega
    · rename_i h3
      obtain ⟨q, hr, he, hq, hb⟩ := texts_back f _ _ _ _ h
      refine ⟨_ :: q, by rw [hr, List.append_assoc]; rfl, he, fun x hx => ?_, fun P f' acc hf => ?_⟩
      · rcases List.mem_cons.1 hx with rfl | hx
        · rfl
        · exact hq x hx
      · obtain ⟨g, rfl⟩ : ∃ g, f' = g + 1 := ⟨f' - 1, by omega⟩
        rw [textsG, if_neg (by rw [List.length_append, List.length_drop]; omega), hp0, if_neg (by rw [List.length_append, List.length_drop]; omega), if_neg (by rw [List.length_append, List.length_drop]; omega), hch]
        have hsp : P ++ d.drop p = (P ++ (d.take (p + 1 + (d.getD p 0).toNat)).drop p) ++ d.drop (p + 1 + (d.getD p 0).toNat) := by
          rw [List.append_assoc]
          congr 1
          rw [List.drop_take]
          have : d.drop (p + 1 + (d.getD p 0).toNat) = (d.drop p).drop (1 + (d.getD p 0).toNat) := by rw [List.drop_drop]; congr 1; omega
          rw [this, show p + 1 + (d.getD p 0).toNat - p = 1 + (d.getD p 0).toNat by omega, List.take_append_drop]
        have hln : (P ++ (d.take (p + 1 + (d.getD p 0).toNat)).drop p).length = P.length + 1 + (d.getD p 0).toNat := by
          rw [List.length_append, List.length_drop, List.length_take]; omega
        have := hb (P ++ (d.take (p + 1 + (d.getD p 0).toNat)).drop p) g (acc ++ [((d.take (p + 1 + (d.getD p 0).toNat)).drop p, false)]) (by omega)
        rw [hln, ← hsp] at this
        rw [this]
        simp only [Prod.mk.injEq, true_and, List.append_assoc, List.cons_append, List.nil_append, and_true]
        omega
theorem dataW_flat {c : Bool} : ∀ (q : Pieces) (pos : Nat) (t : Tab), (∀ x ∈ q, x.2 = false) → dataW c q pos t = (flatP q, t)
  | [], _, _, _ => rfl
  | (s, true) :: q, pos, t, h => by have := h (s, true) List.mem_cons_self; cases this
  | (s, false) :: q, pos, t, h => by rw [dataW_plain, dataW_flat q _ _ fun x hx => h x (List.mem_cons_of_mem _ hx), flatP_cons]
theorem parts_all {kind : Nat} {l : List Part} (h : partsOf kind = some l) : (∀ x ∈ l, (∃ n, x = .fixed n) ∨ x = .named) ∨ l = [.texts] ∨ l = [.rest] := by
  unfold partsOf at h
  repeat' split at h
  all_goals first
    | (cases h; done)
    | (obtain rfl := Option.some.inj h
       first
         | exact .inr (.inl rfl)
         | exact .inr (.inr rfl)
         | (left; intro x hx; simp only [List.mem_cons, List.not_mem_nil, or_false] at hx
            first
              | (rcases hx with rfl | rfl | rfl <;> first | exact .inl ⟨_, rfl⟩ | exact .inr rfl)
              | (rcases hx with rfl | rfl <;> first | exact .inl ⟨_, rfl⟩ | exact .inr rfl)
              | (subst hx; first | exact .inl ⟨_, rfl⟩ | exact .inr rfl)))
theorem pcs_flat {kind : Nat} {d : Bs} (h : dmayB kind d = true) : flatP (pcs kind d) = d := (agree_all kind d).2.2 h
theorem readD_back {kind : Nat} {d : Bs} (h : dmayB kind d = true) (c : Bool) (P : Bs) (t : Tab) (ht : TabOk P t) :
    readD (P ++ (dataW c (pcs kind d) P.length t).1) P.length kind false = (0, pcs kind d) ∧ TabOk (P ++ (dataW c (pcs kind d) P.length t).1) (dataW c (pcs kind d) P.length t).2 := by
  have hfl := pcs_flat h
  have hp : ∃ l e, partsOf kind = some l ∧ doParts d true l 0 [] = (0, e, pcs kind d) := by
    unfold dmayB readD at h
    unfold pcs readD
    cases hk : partsOf kind with
    | none => rw [hk] at h; simp at h
    | some l =>
      rw [hk] at h
      simp only [readE] at h ⊢
      split at h
      · rename_i h1
        split at h
        · simp at h
        · rename_i h2
          rw [if_pos h1, if_neg h2]
          exact ⟨l, _, rfl, Prod.ext h1 rfl⟩
      · rename_i h1; simp at h; exact absurd h h1
  obtain ⟨l, e, hk, hd⟩ := hp
  have hgo : doParts (P ++ (dataW c (pcs kind d) P.length t).1) false l P.length [] = (0, (P ++ (dataW c (pcs kind d) P.length t).1).length, pcs kind d) ∧ TabOk (P ++ (dataW c (pcs kind d) P.length t).1) (dataW c (pcs kind d) P.length t).2 := by
    rcases parts_all hk with hl | rfl | rfl
    · obtain ⟨q, hq, hb⟩ := data_back (c := c) l hl _ _ _ _ hd
      rw [List.nil_append] at hq
      rw [hq]
      have := hb P t [] ht
      rw [List.nil_append] at this
      exact this
    · rw [doParts, doPart] at hd
      obtain ⟨e2, r2, hT⟩ : ∃ e2 r2, textsG d (d.length + 1) 0 [] = (0, e2, r2) := by
        obtain ⟨a, b, cc, hx⟩ : ∃ a b cc, textsG d (d.length + 1) 0 [] = (a, b, cc) := ⟨_, _, _, rfl⟩
        rw [hx] at hd
        cases a with
        | zero => exact ⟨b, cc, hx⟩
        | succ a => simp at hd
      rw [hT] at hd
      simp only [doParts, Prod.mk.injEq, true_and] at hd
      obtain ⟨q, hq, _, hf, hb⟩ := texts_back _ _ _ _ _ hT
      rw [List.nil_append] at hq
      have hqq : pcs kind d = q := by rw [← hd.2, hq]
      rw [hqq] at hfl ⊢
      rw [dataW_flat q _ _ hf, hfl]
      have h2 := hb P ((P ++ d).length + 1) [] (by rw [List.length_append]; omega)
      rw [List.drop_zero, Nat.sub_zero] at h2
      refine ⟨?_, ht.mono _⟩
      rw [doParts, doPart, h2]
      simp [doParts]
    · rw [doParts, doPart] at hd
      simp only [doParts, Prod.mk.injEq, true_and, List.nil_append] at hd
      rw [← hd.2, dataW_plain]
      refine ⟨?_, ?_⟩
      · rw [doParts, doPart]
        simp [doParts, dataW]
      · simp only [dataW]; exact ht.mono _
  refine ⟨?_, hgo.2⟩
  unfold readD
  rw [hk]
  simp only [readE, hgo.1, if_true, Nat.lt_irrefl, if_false]
/-! ### Numbers -/
theorem num2_at (A B : Bs) {n : Nat} (h : n < 65536) : num2 (A ++ (be2 n ++ B)) A.length = n := by
  unfold num2
  have h0 : (A ++ (be2 n ++ B)).getD A.length 0 = UInt8.ofNat (n / 256) := by
    rw [List.getD_eq_getElem?_getD, List.getElem?_append_right (Nat.le_refl _), Nat.sub_self]; rfl
  have h1 : (A ++ (be2 n ++ B)).getD (A.length + 1) 0 = UInt8.ofNat n := by
    rw [List.getD_eq_getElem?_getD, List.getElem?_append_right (by omega), Nat.add_sub_cancel_left]; rfl
  rw [h0, h1, UInt8.toNat_ofNat', UInt8.toNat_ofNat']; omega
theorem num2_at' {S A B : Bs} {n p : Nat} (hS : S = A ++ (be2 n ++ B)) (hp : p = A.length) (h : n < 65536) : num2 S p = n := by subst hS hp; exact num2_at A B h
theorem be4_two {n : Nat} (h : n < 4294967296) : be4 n = be2 (n / 65536) ++ be2 (n % 65536) := by
  have e : ∀ a b : Nat, a % 256 = b % 256 → UInt8.ofNat a = UInt8.ofNat b := fun a b hab => by apply UInt8.toNat_inj.1; rw [UInt8.toNat_ofNat', UInt8.toNat_ofNat']; exact hab
  unfold be4 be2
  rw [e (n / 16777216) (n / 65536 / 256) (by omega), e (n / 256) (n % 65536 / 256) (by omega), e n (n % 65536) (by omega)]
  rfl
theorem num4_at' {S A B : Bs} {n p : Nat} (hS : S = A ++ (be4 n ++ B)) (hp : p = A.length) (h : n < 4294967296) : num4 S p = n := by
  subst hS hp
  unfold num4
  have h0 : num2 (A ++ (be4 n ++ B)) A.length = n / 65536 := by
    refine num2_at' (A := A) (B := be2 (n % 65536) ++ B) ?_ rfl (by omega)
    rw [← List.append_assoc (be2 (n / 65536))]
    congr 2
    exact be4_two h
  have h1 : num2 (A ++ (be4 n ++ B)) (A.length + 2) = n % 65536 := by
    refine num2_at' (A := A ++ be2 (n / 65536)) (B := B) ?_ (by rw [List.length_append, be2_len]) (by omega)
    rw [List.append_assoc, ← List.append_assoc (be2 (n / 65536))]
    congr 2
    exact be4_two h
  rw [h0, h1]; omega
/-! ### Records -/
theorem kind_ne {kind : Nat} {d : Bs} (h : dmayB kind d = true) : kind ≠ 41 := by
  rintro rfl
  unfold dmayB readD at h
  rw [show partsOf 41 = none from rfl] at h
  simp at h
theorem take_len {A B : Bs} {n : Nat} (h : n = A.length) : (A ++ B).take n = A := by subst h; exact List.take_left
theorem decR_back {pre z : Bs} {t : Tab} {r : Rec} {sec : Nat} {acc : List Rec} {has : Bool} {ed : Ed} (ht : TabOk pre t) (hn : mayB r.name = true) (hd : dmayB r.kind r.data = true) (hL : RecL r) (hlen : pre.length + (recW r pre.length t).1.length ≤ 65535) :
    decR (pre ++ ((recW r pre.length t).1 ++ z)) sec ⟨pre.length, acc, has, ed⟩ = (0, ⟨pre.length + (recW r pre.length t).1.length, acc ++ [r], has, ed⟩) ∧ TabOk (pre ++ (recW r pre.length t).1) (recW r pre.length t).2 := by
  obtain ⟨nm, hnm⟩ : ∃ nm, nmW true true r.name pre.length t = nm := ⟨_, rfl⟩
  have h1 := nmW_ok (cmp := true) (kn := true) hn ht
  rw [hnm] at h1
  obtain ⟨hd10, hhd10⟩ : ∃ h, h = be2 r.kind ++ (be2 r.cls ++ be4 r.ttl) := ⟨_, rfl⟩
  have h10 : hd10.length = 8 := by rw [hhd10]; rfl
  obtain ⟨D, hD⟩ : ∃ D, recD r pre.length t = D := ⟨_, rfl⟩
  have hrw : recW r pre.length t = (nm.1 ++ (be2 r.kind ++ (be2 r.cls ++ (be4 r.ttl ++ (be2 D.1.length ++ D.1)))), D.2) := by unfold recW; rw [hnm, hD]
  rw [hrw] at hlen ⊢
  simp only at hlen ⊢
  have hDl : D.1.length < 65536 := by simp only [List.length_append, be2_len, be4_len] at hlen; omega
  have hlW : (nm.1 ++ (be2 r.kind ++ (be2 r.cls ++ (be4 r.ttl ++ (be2 D.1.length ++ D.1))))).length = nm.1.length + 10 + D.1.length := by
    simp only [List.length_append, be2_len, be4_len]; omega
  -- the place behind the ten bytes
  obtain ⟨P, hP⟩ : ∃ P, P = pre ++ (nm.1 ++ (be2 r.kind ++ (be2 r.cls ++ (be4 r.ttl ++ be2 D.1.length)))) := ⟨_, rfl⟩
  have hPl : P.length = pre.length + nm.1.length + 10 := by rw [hP]; simp only [List.length_append, be2_len, be4_len]; omega
  have hPt : TabOk P nm.2 := by
    rw [hP, ← List.append_assoc]; exact h1.2.mono _
  have hDe : D = dataW (compB r.kind) (pcs r.kind r.data) P.length nm.2 := by rw [← hD, recD, hnm, hPl]
  have hb := readD_back hd (compB r.kind) P nm.2 hPt
  rw [← hDe] at hb
  obtain ⟨S, hS⟩ : ∃ S, S = pre ++ (nm.1 ++ (be2 r.kind ++ (be2 r.cls ++ (be4 r.ttl ++ (be2 D.1.length ++ D.1)))) ++ z) := ⟨_, rfl⟩
  have hS2 : S = (P ++ D.1) ++ z := by rw [hS, hP]; simp only [List.append_assoc]
  have hS3 : S = (pre ++ nm.1) ++ (be2 r.kind ++ (be2 r.cls ++ (be4 r.ttl ++ (be2 D.1.length ++ (D.1 ++ z))))) := by rw [hS]; simp only [List.append_assoc]
  have hSl : pre.length + nm.1.length + 10 + D.1.length ≤ S.length := by rw [hS2]; simp only [List.length_append, hPl]; omega
  have hra : readAt S pre.length = (0, r.name, pre.length + nm.1.length) := by
    have := reads_readAt (h1.1.mono (be2 r.kind ++ (be2 r.cls ++ (be4 r.ttl ++ (be2 D.1.length ++ (D.1 ++ z)))))) (may_len hn)
    rw [← hS3] at this
    exact this
  have n1 : num2 S (pre.length + nm.1.length) = r.kind := num2_at' hS3 (by rw [List.length_append]) hL.kind
  have n2 : num2 S (pre.length + nm.1.length + 2) = r.cls := num2_at' (A := pre ++ nm.1 ++ be2 r.kind) (B := be4 r.ttl ++ (be2 D.1.length ++ (D.1 ++ z))) (by rw [hS3]; simp only [List.append_assoc]) (by simp only [List.length_append, be2_len]) hL.cls
  have n3 : num4 S (pre.length + nm.1.length + 4) = r.ttl := num4_at' (A := pre ++ nm.1 ++ be2 r.kind ++ be2 r.cls) (B := be2 D.1.length ++ (D.1 ++ z)) (by rw [hS3]; simp only [List.append_assoc]) (by simp only [List.length_append, be2_len]) hL.ttl
  have n4 : num2 S (pre.length + nm.1.length + 8) = D.1.length := num2_at' (A := pre ++ nm.1 ++ be2 r.kind ++ be2 r.cls ++ be4 r.ttl) (B := D.1 ++ z) (by rw [hS3]; simp only [List.append_assoc]) (by simp only [List.length_append, be2_len, be4_len]) hDl
  have hk := kind_ne hd
  have htk : S.take (pre.length + nm.1.length + 10 + D.1.length) = P ++ D.1 := by rw [hS2]; exact take_len (by rw [List.length_append, hPl])
  have hrd : readD (S.take (pre.length + nm.1.length + 10 + D.1.length)) (pre.length + nm.1.length + 10) r.kind false = (0, pcs r.kind r.data) := by
    rw [htk, ← hPl]; exact hb.1
  refine ⟨?_, ?_⟩
  · rw [← hS]
    unfold decR
    simp only [hra, n1, n2, n3, n4, hrd]
    rw [if_neg (by simp), if_neg (by omega), if_neg (by omega), if_neg hk, if_neg (by simp)]
    have hf : ((pcs r.kind r.data).map (·.1)).flatten = r.data := pcs_flat hd
    rw [hf, hlW, ← Nat.add_assoc, ← Nat.add_assoc]
  · have : pre ++ (nm.1 ++ (be2 r.kind ++ (be2 r.cls ++ (be4 r.ttl ++ (be2 D.1.length ++ D.1))))) = P ++ D.1 := by rw [hP]; simp only [List.append_assoc]
    rw [this]; exact hb.2
def RecM (r : Rec) : Prop := mayB r.name = true ∧ dmayB r.kind r.data = true ∧ RecL r
theorem decS_back {sec : Nat} {z : Bs} {has : Bool} {ed : Ed} : ∀ (l : List Rec) (pre : Bs) (t : Tab) (acc : List Rec) (x : Bs × Tab), (∀ r ∈ l, RecM r) → TabOk pre t → recsW l pre.length t = some x →
    decS (pre ++ (x.1 ++ z)) sec l.length ⟨pre.length, acc, has, ed⟩ = (0, ⟨pre.length + x.1.length, acc ++ l, has, ed⟩) ∧ TabOk (pre ++ x.1) x.2
  | [], pre, t, acc, x, _, ht, h => by
    simp only [recsW, Option.some.injEq] at h
    subst h
    simp only [List.append_nil, List.length_nil, Nat.add_zero, decS]
    exact ⟨trivial, ht⟩
  | r :: l, pre, t, acc, x, hl, ht, h => by
    rw [recsW_cons] at h
    split at h
    · cases h
    · rename_i hlen
      obtain ⟨y, hy, rfl⟩ := Option.map_eq_some_iff.1 h
      obtain ⟨m1, m2, m3⟩ := hl r List.mem_cons_self
      obtain ⟨h1, h2⟩ := decR_back (z := y.1 ++ z) (sec := sec) (acc := acc) (has := has) (ed := ed) ht m1 m2 m3 (by omega)
      have h3 := decS_back (z := z) (sec := sec) (has := has) (ed := ed) l (pre ++ (recW r pre.length t).1) (recW r pre.length t).2 (acc ++ [r]) y (fun r hr => hl r (List.mem_cons_of_mem _ hr)) h2 (by rw [List.length_append]; exact hy)
      simp only [List.append_assoc] at h3 ⊢
      rw [List.length_cons, decS_2 (Nat.succ_pos _) h1, Nat.succ_sub_one]
      rw [List.length_append] at h3
      refine ⟨?_, h3.2⟩
      rw [h3.1, List.length_append, ← Nat.add_assoc]; rfl
theorem decQ_back {z : Bs} : ∀ (l : List Que) (pre : Bs) (t : Tab) (acc : List Que) (x : Bs × Tab), (∀ q ∈ l, mayB q.name = true ∧ QueL q) → TabOk pre t → quesW l pre.length t = some x →
    decQ (pre ++ (x.1 ++ z)) l.length pre.length acc = (0, pre.length + x.1.length, acc ++ l) ∧ TabOk (pre ++ x.1) x.2
  | [], pre, t, acc, x, _, ht, h => by
    simp only [quesW, Option.some.injEq] at h
    subst h
    simp only [List.append_nil, List.length_nil, Nat.add_zero, decQ]
    exact ⟨trivial, ht⟩
  | q :: l, pre, t, acc, x, hl, ht, h => by
    rw [quesW_cons] at h
    split at h
    · cases h
    · rename_i hlen
      obtain ⟨y, hy, rfl⟩ := Option.map_eq_some_iff.1 h
      obtain ⟨m1, m2⟩ := hl q List.mem_cons_self
      obtain ⟨nm, hnm⟩ : ∃ nm, nmW true true q.name pre.length t = nm := ⟨_, rfl⟩
      have h1 := nmW_ok (cmp := true) (kn := true) m1 ht
      rw [hnm] at h1
      have hqw : queW q pre.length t = (nm.1 ++ (be2 q.kind ++ be2 q.cls), nm.2) := by unfold queW; rw [hnm]
      rw [hqw] at hlen hy ⊢
      simp only at hlen hy ⊢
      obtain ⟨S, hS⟩ : ∃ S, S = (pre ++ nm.1) ++ (be2 q.kind ++ (be2 q.cls ++ (y.1 ++ z))) := ⟨_, rfl⟩
      have hS2 : pre ++ ((nm.1 ++ (be2 q.kind ++ be2 q.cls)) ++ y.1 ++ z) = S := by rw [hS]; simp only [List.append_assoc]
      have hS3 : S = (pre ++ (nm.1 ++ (be2 q.kind ++ be2 q.cls))) ++ (y.1 ++ z) := by rw [hS]; simp only [List.append_assoc]
      have hra : readAt S pre.length = (0, q.name, pre.length + nm.1.length) := by
        have := reads_readAt (h1.1.mono (be2 q.kind ++ (be2 q.cls ++ (y.1 ++ z)))) (may_len m1)
        rw [← hS] at this
        exact this
      have n1 : num2 S (pre.length + nm.1.length) = q.kind := num2_at' hS (by rw [List.length_append]) m2.kind
      have n2 : num2 S (pre.length + nm.1.length + 2) = q.cls := num2_at' (A := pre ++ nm.1 ++ be2 q.kind) (B := y.1 ++ z) (by rw [hS]; simp only [List.append_assoc]) (by simp only [List.length_append, be2_len]) m2.cls
      have hSl : pre.length + nm.1.length + 4 ≤ S.length := by rw [hS]; simp only [List.length_append, be2_len]; omega
      have h2 : TabOk (pre ++ (nm.1 ++ (be2 q.kind ++ be2 q.cls))) nm.2 := by rw [← List.append_assoc]; exact h1.2.mono _
      have hPl : (pre ++ (nm.1 ++ (be2 q.kind ++ be2 q.cls))).length = pre.length + nm.1.length + 4 := by simp only [List.length_append, be2_len]; omega
      have h3 := decQ_back (z := z) l (pre ++ (nm.1 ++ (be2 q.kind ++ be2 q.cls))) nm.2 (acc ++ [q]) y (fun r hr => hl r (List.mem_cons_of_mem _ hr)) h2 (by rw [hPl]; rw [← hy]; congr 1; simp only [List.length_append, be2_len]; omega)
      rw [hS2, List.length_cons, decQ_3 (Nat.succ_pos _) (by rw [hra]) (by rw [hra]; simp only; omega), hra, Nat.succ_sub_one]
      simp only [n1, n2]
      rw [← hS3, hPl] at h3
      refine ⟨?_, ?_⟩
      · rw [show (⟨q.name, q.kind, q.cls⟩ : Que) = q from rfl, h3.1]
        simp only [List.length_append, be2_len, List.append_assoc, List.cons_append, List.nil_append, Prod.mk.injEq, true_and, and_true]
        omega
      · have := h3.2
        simp only [List.append_assoc] at this ⊢
        exact this
/-! ### The OPT record -/
theorem optsW_pre : ∀ (l : List Opt) (b d : Bs), optsW l b = some d → ∃ y, d = b ++ y
  | [], b, d, h => by simp only [optsW, Option.some.injEq] at h; exact ⟨[], by rw [List.append_nil, h]⟩
  | o :: l, b, d, h => by
    rw [optsW] at h
    split at h
    · cases h
    · split at h
      · cases h
      · obtain ⟨y, rfl⟩ := optsW_pre l _ d h
        exact ⟨_, List.append_assoc _ _ _⟩
theorem opts_back : ∀ (l : List Opt) (b d : Bs) (f : Nat) (acc : List Opt), (∀ o ∈ l, o.code < 65536) → optsW l b = some d → l.length < f → optsR d f b.length acc = (0, acc ++ l)
  | [], b, d, f, acc, _, h, hf => by
    simp only [optsW, Option.some.injEq] at h
    subst h
    obtain ⟨g, rfl⟩ : ∃ g, f = g + 1 := ⟨f - 1, by simp at hf; omega⟩
    rw [optsR, if_pos (Nat.le_refl _), List.append_nil]
  | o :: l, b, d, f, acc, hc, h, hf => by
    obtain ⟨g, rfl⟩ : ∃ g, f = g + 1 := ⟨f - 1, by omega⟩
    rw [optsW] at h
    split at h
    · cases h
    · rename_i h1
      split at h
      · cases h
      · obtain ⟨y, hy⟩ := optsW_pre l _ d h
        have hco := hc o List.mem_cons_self
        have hbl : (b ++ (be2 o.code ++ (be2 o.data.length ++ o.data))).length = b.length + 4 + o.data.length := by simp only [List.length_append, be2_len]; omega
        have n1 : num2 d b.length = o.code := num2_at' (A := b) (B := be2 o.data.length ++ (o.data ++ y)) (by rw [hy]; simp only [List.append_assoc]) rfl hco
        have n2 : num2 d (b.length + 2) = o.data.length := num2_at' (A := b ++ be2 o.code) (B := o.data ++ y) (by rw [hy]; simp only [List.append_assoc]) (by rw [List.length_append, be2_len]) (by omega)
        have hdl : b.length + 4 + o.data.length ≤ d.length := by rw [hy, List.length_append, hbl]; omega
        have htk : (d.drop (b.length + 4)).take o.data.length = o.data := by
          rw [show d = (b ++ (be2 o.code ++ be2 o.data.length)) ++ (o.data ++ y) by rw [hy]; simp only [List.append_assoc]]
          rw [show b.length + 4 = (b ++ (be2 o.code ++ be2 o.data.length)).length by simp only [List.length_append, be2_len], List.drop_left, List.take_left]
        rw [optsR, if_neg (by omega), if_neg (by omega), n1, n2, if_neg (by omega), htk]
        have := opts_back l _ d g (acc ++ [o]) (fun o ho => hc o (List.mem_cons_of_mem _ ho)) h (by simp at hf; omega)
        rw [hbl] at this
        rw [show (⟨o.code, o.data⟩ : Opt) = o from rfl, this, List.append_assoc]; rfl
theorem edns_back {e : Ed} {d : Bs} (hL : EdL e) (h : optsW e.opts [] = some d) : ednsR e.size (ttlN e) d = (0, e) := by
  have hsz := optsW_sz _ _ _ h
  have hln := len_sum (f := owS) (l := e.opts) fun o _ => by unfold owS; omega
  have ho := opts_back e.opts [] d (d.length + 1) [] (fun o ho => (hL.opts o ho).code) h (by simp only [List.length_nil] at hsz; omega)
  have h1 := hL.ext; have h2 := hL.ver; have h3 := hL.flags
  unfold ednsR
  rw [show ([] : Bs).length = 0 from rfl] at ho
  rw [ho, if_neg (by simp)]
  obtain ⟨size, ext, ver, flags, opts⟩ := e
  unfold ttlN
  simp only [List.nil_append, Prod.mk.injEq, true_and, Ed.mk.injEq, and_true] at h1 h2 h3 ⊢
  refine ⟨?_, ?_, ?_⟩ <;> omega
theorem optR_back {pre z d : Bs} {e : Ed} {acc : List Rec} {ed : Ed} (hL : EdL e) (h : optsW e.opts [] = some d) (hd : d.length < 65536) :
    decR (pre ++ (optW e d ++ z)) 3 ⟨pre.length, acc, false, ed⟩ = (0, ⟨pre.length + (optW e d).length, acc, true, e⟩) := by
  obtain ⟨S, hS⟩ : ∃ S, S = (pre ++ [0]) ++ (be2 41 ++ (be2 e.size ++ (be4 (ttlN e) ++ (be2 d.length ++ (d ++ z))))) := ⟨_, rfl⟩
  have hS2 : pre ++ (optW e d ++ z) = S := by rw [hS]; simp only [optW, List.append_assoc, List.cons_append, List.nil_append]
  have hol : (optW e d).length = 11 + d.length := by simp only [optW, List.length_cons, List.length_append, be2_len, be4_len]; omega
  have hSl : pre.length + 11 + d.length ≤ S.length := by rw [hS]; simp only [List.length_append, be2_len, be4_len, List.length_cons, List.length_nil]; omega
  have h1 := hL.ext; have h2 := hL.ver; have h3 := hL.flags
  have htl : ttlN e < 4294967296 := by unfold ttlN; omega
  have hra : readAt S pre.length = (0, [0], pre.length + 1) := by
    refine reads_readAt (.root ?_) (by simp)
    rw [hS, List.append_assoc, List.getElem?_append_right (Nat.le_refl _), Nat.sub_self]; rfl
  have n1 : num2 S (pre.length + 1) = 41 := num2_at' hS (by rw [List.length_append]; rfl) (by omega)
  have n2 : num2 S (pre.length + 1 + 2) = e.size := num2_at' (A := pre ++ [0] ++ be2 41) (B := be4 (ttlN e) ++ (be2 d.length ++ (d ++ z))) (by rw [hS]; simp only [List.append_assoc]) (by simp only [List.length_append, be2_len, List.length_cons, List.length_nil]) hL.size
  have n3 : num4 S (pre.length + 1 + 4) = ttlN e := num4_at' (A := pre ++ [0] ++ be2 41 ++ be2 e.size) (B := be2 d.length ++ (d ++ z)) (by rw [hS]; simp only [List.append_assoc]) (by simp only [List.length_append, be2_len, List.length_cons, List.length_nil]) htl
  have n4 : num2 S (pre.length + 1 + 8) = d.length := num2_at' (A := pre ++ [0] ++ be2 41 ++ be2 e.size ++ be4 (ttlN e)) (B := d ++ z) (by rw [hS]; simp only [List.append_assoc]) (by simp only [List.length_append, be2_len, be4_len, List.length_cons, List.length_nil]) hd
  have hdd : (S.drop (pre.length + 1 + 10)).take d.length = d := by
    rw [show S = (pre ++ [0] ++ be2 41 ++ be2 e.size ++ be4 (ttlN e) ++ be2 d.length) ++ (d ++ z) by rw [hS]; simp only [List.append_assoc]]
    rw [show pre.length + 1 + 10 = (pre ++ [0] ++ be2 41 ++ be2 e.size ++ be4 (ttlN e) ++ be2 d.length).length by simp only [List.length_append, be2_len, be4_len, List.length_cons, List.length_nil], List.drop_left, List.take_left]
  rw [hS2]
  unfold decR
  simp only [hra, n1, n2, n3, n4, hdd, edns_back hL h]
  rw [if_neg (by simp), if_neg (by omega), if_neg (by omega), if_pos trivial, if_neg (by simp), if_neg (by simp), hol]
  simp only [Prod.mk.injEq, true_and, RSt.mk.injEq, and_true]
  omega
/-! ### Headers -/
theorem bitN_eq (b : Bool) (k : Nat) : bitN b k = k * b.toNat := by cases b <;> simp [bitN]
theorem bit_is {x : Nat} {b : Bool} (h : x = b.toNat) : decide (x = 1) = b := by subst h; cases b <;> rfl
theorem flagsN_max {h : Hd} (ho : h.op ≤ 15) (hc : h.code ≤ 15) : flagsN h < 65536 := by
  unfold flagsN
  simp only [bitN_eq]
  have a1 := Bool.toNat_le h.qr; have a2 := Bool.toNat_le h.aa; have a3 := Bool.toNat_le h.tc; have a4 := Bool.toNat_le h.rd
  have a5 := Bool.toNat_le h.ra; have a6 := Bool.toNat_le h.z; have a7 := Bool.toNat_le h.ad; have a8 := Bool.toNat_le h.cd
  omega
theorem fromN_back {h : Hd} (ho : h.op ≤ 15) (hc : h.code ≤ 15) : fromN h.id (flagsN h) = h := by
  have a1 := Bool.toNat_le h.qr; have a2 := Bool.toNat_le h.aa; have a3 := Bool.toNat_le h.tc; have a4 := Bool.toNat_le h.rd
  have a5 := Bool.toNat_le h.ra; have a6 := Bool.toNat_le h.z; have a7 := Bool.toNat_le h.ad; have a8 := Bool.toNat_le h.cd
  have e : flagsN h = h.op * 2048 + h.code + (32768 * h.qr.toNat + 1024 * h.aa.toNat + 512 * h.tc.toNat + 256 * h.rd.toNat + 128 * h.ra.toNat + 64 * h.z.toNat + 32 * h.ad.toNat + 16 * h.cd.toNat) := by
    unfold flagsN; simp only [bitN_eq]
  unfold fromN bitAt
  rw [e]
  have g1 : (h.op * 2048 + h.code + (32768 * h.qr.toNat + 1024 * h.aa.toNat + 512 * h.tc.toNat + 256 * h.rd.toNat + 128 * h.ra.toNat + 64 * h.z.toNat + 32 * h.ad.toNat + 16 * h.cd.toNat)) / 2048 % 16 = h.op := by omega
  have g2 : (h.op * 2048 + h.code + (32768 * h.qr.toNat + 1024 * h.aa.toNat + 512 * h.tc.toNat + 256 * h.rd.toNat + 128 * h.ra.toNat + 64 * h.z.toNat + 32 * h.ad.toNat + 16 * h.cd.toNat)) % 16 = h.code := by omega
  rw [g1, g2, bit_is (b := h.qr) (by omega), bit_is (b := h.aa) (by omega), bit_is (b := h.tc) (by omega), bit_is (b := h.rd) (by omega), bit_is (b := h.ra) (by omega), bit_is (b := h.z) (by omega), bit_is (b := h.ad) (by omega), bit_is (b := h.cd) (by omega)]
/-! ### A message -/
theorem body_parts {m : Msg} {b : Bs × Tab} (h : bodyW m = some b) : ∃ a c d e, quesW m.qs 12 [] = some a ∧ recsW m.ans (12 + a.1.length) a.2 = some c ∧ recsW m.auth (12 + a.1.length + c.1.length) c.2 = some d ∧
    recsW m.extra (12 + a.1.length + c.1.length + d.1.length) d.2 = some e ∧ b = (a.1 ++ (c.1 ++ (d.1 ++ e.1)), e.2) := by
  unfold bodyW at h
  cases hq : quesW m.qs 12 [] with
  | none => rw [hq] at h; cases h
  | some a =>
  rw [hq] at h; simp only at h
  cases h1 : recsW m.ans (12 + a.1.length) a.2 with
  | none => rw [h1] at h; cases h
  | some c =>
  rw [h1] at h; simp only at h
  cases h2 : recsW m.auth (12 + a.1.length + c.1.length) c.2 with
  | none => rw [h2] at h; cases h
  | some d =>
  rw [h2] at h; simp only at h
  cases h3 : recsW m.extra (12 + a.1.length + c.1.length + d.1.length) d.2 with
  | none => rw [h3] at h; cases h
  | some e =>
  rw [h3] at h; simp only [Option.some.injEq] at h
  exact ⟨a, c, d, e, rfl, h1, h2, h3, h.symm⟩
theorem tab_nil (s : Bs) : TabOk s [] := fun n q h => by simp [tabAt] at h
end Go.Proofs.YtpoebplhemimmaaGreatDoor
