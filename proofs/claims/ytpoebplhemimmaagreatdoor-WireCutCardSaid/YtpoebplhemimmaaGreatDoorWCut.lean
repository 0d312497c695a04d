/-
  A message's bytes that are cut short, or have bytes behind them. No program is in sight here.
-/
import Derived.Test.YtpoebplhemimmaaGreatDoorWBack2
namespace Go.Proofs.YtpoebplhemimmaaGreatDoor
set_option linter.unusedVariables false
set_option linter.unusedSimpArgs false

theorem getD_take {A : Bs} {n p : Nat} (h : p < n) : (A.take n).getD p 0 = A.getD p 0 := by
  rw [List.getD_eq_getElem?_getD, List.getD_eq_getElem?_getD, List.getElem?_take_of_lt h]
theorem getD_at (A B : Bs) (c : UInt8) {p : Nat} (h : p = A.length) : (A ++ c :: B).getD p 0 = c := by
  subst h
  rw [List.getD_eq_getElem?_getD, List.getElem?_append_right (Nat.le_refl _), Nat.sub_self]; rfl
theorem putL_cut {cmp kn : Bool} : ∀ (l : List Bs) (pos : Nat) (t : Tab) (s : Bs) (a f : Nat) (o : Option Nat) (acc : Bs) (k : Nat), okL l → s.length = pos → Suf s t l a → k < (putL cmp kn l pos t).1.length → acc.length + (nameL l).length ≤ 255 →
    (readG ((s ++ (putL cmp kn l pos t).1).take (pos + k)) f pos a o acc).1 = 4
  | l, pos, t, s, a, 0, o, acc, k, _, _, _, _, _ => rfl
  | [], pos, t, s, a, f + 1, o, acc, k, _, hs, _, hk, _ => by
    simp only [putL, List.length_cons, List.length_nil] at hk ⊢
    have hl : ((s ++ [0]).take (pos + k)).length = pos + k := by rw [List.length_take, List.length_append]; simp; omega
    rw [readG, if_pos (by omega)]
  | x :: l, pos, t, s, a, f + 1, o, acc, k, hl, hs, ht, hk, hacc => by
    have hx := hl x List.mem_cons_self
    have hl' : okL l := fun y hy => hl y (List.mem_cons_of_mem _ hy)
    rw [nameL_cons, List.length_cons, List.length_append] at hacc
    have hML : ((s ++ (putL cmp kn (x :: l) pos t).1).take (pos + k)).length = pos + k := by rw [List.length_take, List.length_append]; omega
    by_cases hk0 : k = 0
    · rw [readG, if_pos (by omega)]
    have go : ∀ t', Suf (s ++ UInt8.ofNat x.length :: x) t' l a → k < (UInt8.ofNat x.length :: (x ++ (putL cmp kn l (pos + 1 + x.length) t').1)).length →
        (readG ((s ++ UInt8.ofNat x.length :: (x ++ (putL cmp kn l (pos + 1 + x.length) t').1)).take (pos + k)) (f + 1) pos a o acc).1 = 4 := by
      intro t' ht' hk'
      have hlen : ((s ++ UInt8.ofNat x.length :: (x ++ (putL cmp kn l (pos + 1 + x.length) t').1)).take (pos + k)).length = pos + k := by rw [List.length_take, List.length_append]; omega
      have hc : (((s ++ UInt8.ofNat x.length :: (x ++ (putL cmp kn l (pos + 1 + x.length) t').1)).take (pos + k)).getD pos 0).toNat = x.length := by
        rw [getD_take (by omega), getD_at _ _ _ hs.symm]; exact len8 hx.2
      rw [readG, if_neg (by omega), hc, if_neg (by omega), if_neg (by omega), if_neg (by omega)]
      split
      · rfl
      · rename_i h1
        rw [hlen] at h1
        have hsl : (((s ++ UInt8.ofNat x.length :: (x ++ (putL cmp kn l (pos + 1 + x.length) t').1)).take (pos + k)).take (pos + 1 + x.length)).drop pos = UInt8.ofNat x.length :: x := by
          rw [List.take_take, Nat.min_eq_left (by omega), show s ++ UInt8.ofNat x.length :: (x ++ (putL cmp kn l (pos + 1 + x.length) t').1) = (s ++ UInt8.ofNat x.length :: x) ++ (putL cmp kn l (pos + 1 + x.length) t').1 by simp]
          rw [take_len (by simp; omega), ← hs, List.drop_left]
        rw [hsl, if_neg (by rw [List.length_append, List.length_cons]; have : 0 < (nameL l).length := (by simp [nameL]); omega)]
        have := putL_cut (cmp := cmp) (kn := kn) l (pos + 1 + x.length) t' (s ++ UInt8.ofNat x.length :: x) a f o (acc ++ UInt8.ofNat x.length :: x) (k - 1 - x.length) hl' (by simp; omega) ht' (by simp only [List.length_cons, List.length_append] at hk'; omega)
          (by rw [List.length_append, List.length_cons]; omega)
        rw [show pos + 1 + x.length + (k - 1 - x.length) = pos + k by omega] at this
        rw [show s ++ UInt8.ofNat x.length :: (x ++ (putL cmp kn l (pos + 1 + x.length) t').1) = (s ++ UInt8.ofNat x.length :: x) ++ (putL cmp kn l (pos + 1 + x.length) t').1 by simp]
        exact this
    unfold putL at hk ⊢
    cases hq : tabAt t (joinL (x :: l) ++ [0]) with
    | none => rw [hq] at hk; exact go _ (ht.tail hl _) hk
    | some q =>
      rw [hq] at hk
      simp only at hk ⊢
      split at hk
      · rename_i hcmp
        rw [if_pos hcmp]
        obtain ⟨h1, h2, nx, h3⟩ := ht (x :: l) List.suffix_rfl (by simp) q hq
        rw [be2_len] at hk
        obtain rfl : k = 1 := by omega
        show (readG ((s ++ be2 (49152 + q)).take (pos + 1)) (f + 1) pos a o acc).1 = 4
        have hlen : ((s ++ be2 (49152 + q)).take (pos + 1)).length = pos + 1 := by rw [List.length_take, List.length_append, be2_len]; omega
        have hc : (((s ++ be2 (49152 + q)).take (pos + 1)).getD pos 0).toNat = 192 + q / 256 := by
          rw [getD_take (by omega)]
          show ((s ++ UInt8.ofNat ((49152 + q) / 256) :: [UInt8.ofNat (49152 + q)]).getD pos 0).toNat = _
          rw [getD_at _ _ _ hs.symm, UInt8.toNat_ofNat']; omega
        rw [readG, if_neg (by omega), hc, if_neg (by omega), if_pos (by omega), if_pos (by omega)]
      · rename_i hcmp
        rw [if_neg hcmp]
        exact go _ (ht.tail' _) hk
theorem nmW_cut {cmp kn : Bool} {n : Bs} {t : Tab} {s : Bs} (hn : mayB n = true) (ht : TabOk s t) {k : Nat} (hk : k < (nmW cmp kn n s.length t).1.length) :
    (readAt ((s ++ (nmW cmp kn n s.length t).1).take (s.length + k)) s.length).1 = 4 := by
  obtain ⟨l, hl⟩ := may_iff.1 hn
  obtain ⟨h1, h2, h3⟩ := split_some.1 hl
  have hml := may_len hn
  unfold nmW at hk ⊢
  rw [hl, Option.getD_some] at hk ⊢
  unfold readAt
  rw [if_neg (by rw [List.length_take, List.length_append]; omega)]
  exact putL_cut l s.length t s s.length _ none [] k h2 rfl (ht.suf l) hk (by show 0 + (nameL l).length ≤ 255; rw [show nameL l = joinL l ++ [0] from rfl, ← h1]; omega)
theorem take_in {A B : Bs} {j : Nat} (h : j ≤ A.length) : (A ++ B).take j = A.take j := List.take_append_of_le_length h
theorem take_out {A B : Bs} {j : Nat} (h : A.length ≤ j) : (A ++ B).take j = A ++ B.take (j - A.length) := by
  rw [List.take_append, List.take_of_length_le h]
theorem decR_cut {pre z : Bs} {t : Tab} {r : Rec} {sec j : Nat} {x : RSt} (hx : x.p = pre.length) (ht : TabOk pre t) (hn : mayB r.name = true) (hlen : pre.length + (recW r pre.length t).1.length ≤ 65535) (h1 : pre.length ≤ j) (h2 : j < pre.length + (recW r pre.length t).1.length) :
    (decR ((pre ++ ((recW r pre.length t).1 ++ z)).take j) sec x).1 = 4 := by
  obtain ⟨nm, hnm⟩ : ∃ nm, nmW true true r.name pre.length t = nm := ⟨_, rfl⟩
  obtain ⟨D, hD⟩ : ∃ D, recD r pre.length t = D := ⟨_, rfl⟩
  have hrw : recW r pre.length t = (nm.1 ++ (be2 r.kind ++ (be2 r.cls ++ (be4 r.ttl ++ (be2 D.1.length ++ D.1)))), D.2) := by unfold recW; rw [hnm, hD]
  rw [hrw] at h2 hlen ⊢
  simp only [List.length_append, be2_len, be4_len] at h2 hlen ⊢
  obtain ⟨S, hS⟩ : ∃ S, S = (pre ++ nm.1) ++ (be2 r.kind ++ (be2 r.cls ++ (be4 r.ttl ++ (be2 D.1.length ++ (D.1 ++ z))))) := ⟨_, rfl⟩
  rw [show pre ++ (nm.1 ++ (be2 r.kind ++ (be2 r.cls ++ (be4 r.ttl ++ (be2 D.1.length ++ D.1)))) ++ z) = S by rw [hS]; simp only [List.append_assoc]]
  have hSl : (S.take j).length = j := by rw [List.length_take, hS]; simp only [List.length_append, be2_len, be4_len]; omega
  unfold decR
  rw [hx]
  by_cases hj : j < pre.length + nm.1.length
  · have hc : (readAt (S.take j) pre.length).1 = 4 := by
      rw [hS, take_in (by rw [List.length_append]; omega)]
      have := nmW_cut (cmp := true) (kn := true) (k := j - pre.length) hn ht (by rw [hnm]; omega)
      rw [hnm, show pre.length + (j - pre.length) = j by omega] at this
      exact this
    rw [if_pos (by omega)]; exact hc
  · have h3 := nmW_ok (cmp := true) (kn := true) hn ht
    rw [hnm] at h3
    have hra : readAt (S.take j) pre.length = (0, r.name, pre.length + nm.1.length) := by
      rw [hS, take_out (by rw [List.length_append]; omega)]
      exact reads_readAt (h3.1.mono _) (may_len hn)
    simp only [hra, hSl]
    rw [if_neg (by simp)]
    split
    · rfl
    · rename_i h10
      have n4 : num2 (S.take j) (pre.length + nm.1.length + 8) = D.1.length := by
        have hsplit : S = (pre ++ nm.1 ++ be2 r.kind ++ be2 r.cls ++ be4 r.ttl ++ be2 D.1.length) ++ (D.1 ++ z) := by rw [hS]; simp only [List.append_assoc]
        rw [hsplit, take_out (by simp only [List.length_append, be2_len, be4_len]; omega)]
        exact num2_at' (A := pre ++ nm.1 ++ be2 r.kind ++ be2 r.cls ++ be4 r.ttl) (B := (D.1 ++ z).take (j - (pre ++ nm.1 ++ be2 r.kind ++ be2 r.cls ++ be4 r.ttl ++ be2 D.1.length).length)) (by simp only [List.append_assoc]) (by simp only [List.length_append, be2_len, be4_len]) (by omega)
      rw [n4, if_pos (by omega)]
theorem optR_cut {pre d : Bs} {e : Ed} {j : Nat} {x : RSt} (hx : x.p = pre.length) (hd : d.length < 65536) (h1 : pre.length ≤ j) (h2 : j < pre.length + (optW e d).length) : (decR ((pre ++ optW e d).take j) 3 x).1 = 4 := by
  have hol : (optW e d).length = 11 + d.length := by simp only [optW, List.length_cons, List.length_append, be2_len, be4_len]; omega
  rw [hol] at h2
  obtain ⟨S, hS⟩ : ∃ S, S = (pre ++ [0]) ++ (be2 41 ++ (be2 e.size ++ (be4 (ttlN e) ++ (be2 d.length ++ d)))) := ⟨_, rfl⟩
  rw [show pre ++ optW e d = S by rw [hS]; simp only [optW, List.append_assoc, List.cons_append, List.nil_append]]
  have hSl : (S.take j).length = j := by rw [List.length_take, hS]; simp only [List.length_append, be2_len, be4_len, List.length_cons, List.length_nil]; omega
  unfold decR
  rw [hx]
  by_cases hj : j = pre.length
  · have hc : (readAt (S.take j) pre.length).1 = 4 := by
      unfold readAt
      rw [if_neg (by omega), readG, if_pos (by omega)]
    rw [if_pos (by omega)]; exact hc
  · have hra : readAt (S.take j) pre.length = (0, [0], pre.length + 1) := by
      rw [hS, take_out (by rw [List.length_append, List.length_cons, List.length_nil]; omega)]
      refine reads_readAt (.root ?_) (by simp)
      rw [List.append_assoc, List.getElem?_append_right (Nat.le_refl _), Nat.sub_self]; rfl
    simp only [hra, hSl]
    rw [if_neg (by simp)]
    split
    · rfl
    · rename_i h10
      have n4 : num2 (S.take j) (pre.length + 1 + 8) = d.length := by
        have hsplit : S = (pre ++ [0] ++ be2 41 ++ be2 e.size ++ be4 (ttlN e) ++ be2 d.length) ++ d := by rw [hS]; simp only [List.append_assoc]
        rw [hsplit, take_out (by simp only [List.length_append, be2_len, be4_len, List.length_cons, List.length_nil]; omega)]
        exact num2_at' (A := pre ++ [0] ++ be2 41 ++ be2 e.size ++ be4 (ttlN e)) (B := d.take (j - (pre ++ [0] ++ be2 41 ++ be2 e.size ++ be4 (ttlN e) ++ be2 d.length).length)) (by simp only [List.append_assoc]) (by simp only [List.length_append, be2_len, be4_len, List.length_cons, List.length_nil]) hd
      rw [n4, if_pos (by omega)]
theorem decS_cut {sec : Nat} {z : Bs} {has : Bool} {ed : Ed} {j more : Nat} : ∀ (l : List Rec) (pre : Bs) (t : Tab) (acc : List Rec) (x : Bs × Tab), (∀ r ∈ l, RecM r) → TabOk pre t → recsW l pre.length t = some x → pre.length ≤ j → j < pre.length + x.1.length →
    (decS ((pre ++ (x.1 ++ z)).take j) sec (l.length + more) ⟨pre.length, acc, has, ed⟩).1 = 4
  | [], pre, t, acc, x, _, ht, h, h1, h2 => by
    simp only [recsW, Option.some.injEq] at h
    subst h
    simp at h2; omega
  | r :: l, pre, t, acc, x, hl, ht, h, h1, h2 => by
    rw [recsW_cons] at h
    split at h
    · cases h
    · rename_i hlen
      obtain ⟨y, hy, rfl⟩ := Option.map_eq_some_iff.1 h
      obtain ⟨m1, m2, m3⟩ := hl r List.mem_cons_self
      simp only [List.append_assoc] at h2 ⊢
      by_cases hj : j < pre.length + (recW r pre.length t).1.length
      · have hc := decR_cut (z := y.1 ++ z) (sec := sec) (x := ⟨pre.length, acc, has, ed⟩) rfl ht m1 (by omega) h1 hj
        rw [decS_1 (by simp only [List.length_cons]; omega) (by rw [hc]; omega)]
        exact hc
      · have htk : (pre ++ ((recW r pre.length t).1 ++ (y.1 ++ z))).take j = pre ++ ((recW r pre.length t).1 ++ (y.1 ++ z).take (j - (pre ++ (recW r pre.length t).1).length)) := by
          rw [← List.append_assoc, take_out (by rw [List.length_append]; omega), List.append_assoc]
        obtain ⟨h3, h4⟩ := decR_back (z := (y.1 ++ z).take (j - (pre ++ (recW r pre.length t).1).length)) (sec := sec) (acc := acc) (has := has) (ed := ed) ht m1 m2 m3 (by omega)
        have h5 := decS_cut (z := z) (sec := sec) (has := has) (ed := ed) (j := j) (more := more) l (pre ++ (recW r pre.length t).1) (recW r pre.length t).2 (acc ++ [r]) y (fun r hr => hl r (List.mem_cons_of_mem _ hr)) h4 (by rw [List.length_append]; exact hy) (by rw [List.length_append]; omega) (by rw [List.length_append]; rw [List.length_append] at h2; omega)
        rw [← htk] at h3
        rw [decS_2 (by simp only [List.length_cons]; omega) h3, show (r :: l).length + more - 1 = l.length + more by simp only [List.length_cons]; omega]
        rw [List.length_append, List.append_assoc] at h5
        exact h5
theorem que_back {pre z : Bs} {t : Tab} {q : Que} (ht : TabOk pre t) (m1 : mayB q.name = true) (m2 : QueL q) :
    ∃ n, (queW q pre.length t).1.length = n + 4 ∧ n = (nmW true true q.name pre.length t).1.length ∧ readAt (pre ++ ((queW q pre.length t).1 ++ z)) pre.length = (0, q.name, pre.length + n) ∧ num2 (pre ++ ((queW q pre.length t).1 ++ z)) (pre.length + n) = q.kind ∧
      num2 (pre ++ ((queW q pre.length t).1 ++ z)) (pre.length + n + 2) = q.cls ∧ TabOk (pre ++ (queW q pre.length t).1) (queW q pre.length t).2 := by
  obtain ⟨nm, hnm⟩ : ∃ nm, nmW true true q.name pre.length t = nm := ⟨_, rfl⟩
  have h1 := nmW_ok (cmp := true) (kn := true) m1 ht
  rw [hnm] at h1
  have hqw : queW q pre.length t = (nm.1 ++ (be2 q.kind ++ be2 q.cls), nm.2) := by unfold queW; rw [hnm]
  rw [hqw, hnm]
  simp only
  obtain ⟨S, hS⟩ : ∃ S, S = (pre ++ nm.1) ++ (be2 q.kind ++ (be2 q.cls ++ z)) := ⟨_, rfl⟩
  rw [show pre ++ (nm.1 ++ (be2 q.kind ++ be2 q.cls) ++ z) = S by rw [hS]; simp only [List.append_assoc]]
  refine ⟨nm.1.length, by simp only [List.length_append, be2_len], rfl, ?_, num2_at' hS (by rw [List.length_append]) m2.kind, num2_at' (A := pre ++ nm.1 ++ be2 q.kind) (B := z) (by rw [hS]; simp only [List.append_assoc]) (by simp only [List.length_append, be2_len]) m2.cls, ?_⟩
  · have := reads_readAt (h1.1.mono (be2 q.kind ++ (be2 q.cls ++ z))) (may_len m1)
    rw [← hS] at this
    exact this
  · rw [← List.append_assoc]; exact h1.2.mono _
theorem decQ_cut {z : Bs} {j : Nat} : ∀ (l : List Que) (pre : Bs) (t : Tab) (acc : List Que) (x : Bs × Tab), (∀ q ∈ l, mayB q.name = true ∧ QueL q) → TabOk pre t → quesW l pre.length t = some x → pre.length ≤ j → j < pre.length + x.1.length →
    (decQ ((pre ++ (x.1 ++ z)).take j) l.length pre.length acc).1 = 4
  | [], pre, t, acc, x, _, ht, h, h1, h2 => by
    simp only [quesW, Option.some.injEq] at h
    subst h
    simp at h2; omega
  | q :: l, pre, t, acc, x, hl, ht, h, h1, h2 => by
    rw [quesW_cons] at h
    split at h
    · cases h
    · rename_i hlen
      obtain ⟨y, hy, rfl⟩ := Option.map_eq_some_iff.1 h
      obtain ⟨m1, m2⟩ := hl q List.mem_cons_self
      simp only [List.append_assoc] at h2 ⊢
      rw [List.length_append] at h2
      obtain ⟨n, hn1, hn2, hr, hk, hc, htb⟩ := que_back (z := y.1 ++ z) ht m1 m2
      obtain ⟨W, hW⟩ : ∃ W, (queW q pre.length t).1 = W := ⟨_, rfl⟩
      have hlS : ((pre ++ ((queW q pre.length t).1 ++ (y.1 ++ z))).take j).length = j := by rw [List.length_take]; simp only [List.length_append]; omega
      by_cases hj : j < pre.length + (queW q pre.length t).1.length
      · by_cases hj2 : j < pre.length + n
        · have hcut : (readAt ((pre ++ ((queW q pre.length t).1 ++ (y.1 ++ z))).take j) pre.length).1 = 4 := by
            have h3 := nmW_cut (cmp := true) (kn := true) (k := j - pre.length) m1 ht (by rw [← hn2]; omega)
            rw [show pre.length + (j - pre.length) = j by omega] at h3
            have hq : (queW q pre.length t).1 = (nmW true true q.name pre.length t).1 ++ (be2 q.kind ++ be2 q.cls) := rfl
            rw [hq, show pre ++ ((nmW true true q.name pre.length t).1 ++ (be2 q.kind ++ be2 q.cls) ++ (y.1 ++ z)) = (pre ++ (nmW true true q.name pre.length t).1) ++ (be2 q.kind ++ be2 q.cls ++ (y.1 ++ z)) by simp only [List.append_assoc], take_in (by rw [List.length_append]; omega)]
            exact h3
          rw [decQ_1 (by simp only [List.length_cons]; omega) (by rw [hcut]; omega)]
          exact hcut
        · have h3 := nmW_ok (cmp := true) (kn := true) m1 ht
          have hra : readAt ((pre ++ ((queW q pre.length t).1 ++ (y.1 ++ z))).take j) pre.length = (0, q.name, pre.length + n) := by
            have hq : (queW q pre.length t).1 = (nmW true true q.name pre.length t).1 ++ (be2 q.kind ++ be2 q.cls) := rfl
            rw [hq, show pre ++ ((nmW true true q.name pre.length t).1 ++ (be2 q.kind ++ be2 q.cls) ++ (y.1 ++ z)) = (pre ++ (nmW true true q.name pre.length t).1) ++ (be2 q.kind ++ be2 q.cls ++ (y.1 ++ z)) by simp only [List.append_assoc], take_out (by rw [List.length_append]; omega), hn2]
            exact reads_readAt (h3.1.mono _) (may_len m1)
          exact decQ_2 (by simp only [List.length_cons]; omega) (by rw [hra]) (by rw [hra, hlS]; simp only; omega)
      · obtain ⟨Z, hZ⟩ : ∃ Z, Z = (y.1 ++ z).take (j - (pre ++ (queW q pre.length t).1).length) := ⟨_, rfl⟩
        have htk : (pre ++ ((queW q pre.length t).1 ++ (y.1 ++ z))).take j = pre ++ ((queW q pre.length t).1 ++ Z) := by
          rw [← List.append_assoc, take_out (by rw [List.length_append]; omega), List.append_assoc, hZ]
        obtain ⟨n', hn1', hn2', hr', hk', hc', _⟩ := que_back (z := Z) ht m1 m2
        rw [← htk] at hr' hk' hc'
        have h5 := decQ_cut (z := z) (j := j) l (pre ++ (queW q pre.length t).1) (queW q pre.length t).2 (acc ++ [q]) y (fun r hr => hl r (List.mem_cons_of_mem _ hr)) htb (by rw [List.length_append]; exact hy) (by rw [List.length_append]; omega) (by rw [List.length_append]; omega)
        rw [List.length_cons, decQ_3 (Nat.succ_pos _) (by rw [hr']) (by rw [hr', hlS]; simp only; omega), hr', Nat.succ_sub_one]
        simp only [hk', hc']
        rw [List.length_append, List.append_assoc, hn1', ← Nat.add_assoc] at h5
        exact h5
/-- The parts of a message's bytes. -/
theorem enc_parts {m : Msg} {s : Bs} (hL : MsgL m) (h : encN m = (0, s)) : ∃ (H : Bs) (a c d e : Bs × Tab) (o : Bs) (k3 : Nat), s = H ++ (a.1 ++ (c.1 ++ (d.1 ++ (e.1 ++ o)))) ∧ H.length = 12 ∧ MayL m ∧ s.length ≤ 65535 ∧
    (∀ Z, num2 (H ++ Z) 0 = m.hd.id ∧ num2 (H ++ Z) 2 = flagsN m.hd ∧ num2 (H ++ Z) 4 = m.qs.length ∧ num2 (H ++ Z) 6 = m.ans.length ∧ num2 (H ++ Z) 8 = m.auth.length ∧ num2 (H ++ Z) 10 = k3) ∧
    quesW m.qs 12 [] = some a ∧ recsW m.ans (12 + a.1.length) a.2 = some c ∧ recsW m.auth (12 + a.1.length + c.1.length) c.2 = some d ∧ recsW m.extra (12 + a.1.length + c.1.length + d.1.length) d.2 = some e ∧ lastW m = some o ∧
    k3 = m.extra.length + (if m.has = true then 1 else 0) := by
  obtain ⟨hm, hb⟩ := encN_ok h
  obtain ⟨b, o, h1, h2, h3, hs⟩ := encB_parts hb
  have hl := mayM_l hm
  obtain ⟨a, c, d, e, q1, q2, q3, q4, rfl⟩ := body_parts h1
  have hnx := hl.nx; have hnq := hl.nq; have hna := hl.na; have hnu := hl.nu
  obtain ⟨k3, hk3⟩ : ∃ k3, k3 = m.extra.length + (if m.has = true then 1 else 0) := ⟨_, rfl⟩
  rw [← hk3] at hs hnx
  obtain ⟨H, hH⟩ : ∃ H, H = headW m.hd m.qs.length m.ans.length m.auth.length k3 := ⟨_, rfl⟩
  have hHl : H.length = 12 := by rw [hH]; rfl
  rw [← hH] at hs
  simp only at hs h3
  have hHe : H = be2 m.hd.id ++ (be2 (flagsN m.hd) ++ (be2 m.qs.length ++ (be2 m.ans.length ++ (be2 m.auth.length ++ be2 k3)))) := hH
  refine ⟨H, a, c, d, e, o, k3, by rw [hs]; simp only [List.append_assoc], hHl, hl, by rw [hs]; simp only [List.length_append] at h3 ⊢; omega, fun Z => ?_, q1, q2, q3, q4, h2, hk3⟩
  have hS1 : H ++ Z = be2 m.hd.id ++ (be2 (flagsN m.hd) ++ (be2 m.qs.length ++ (be2 m.ans.length ++ (be2 m.auth.length ++ (be2 k3 ++ Z))))) := by rw [hHe]; simp only [List.append_assoc]
  refine ⟨num2_at' (A := []) (B := be2 (flagsN m.hd) ++ (be2 m.qs.length ++ (be2 m.ans.length ++ (be2 m.auth.length ++ (be2 k3 ++ Z))))) (by rw [List.nil_append]; exact hS1) rfl hL.hd.id,
    num2_at' (A := be2 m.hd.id) hS1 rfl (flagsN_max hl.op hl.code),
    num2_at' (A := be2 m.hd.id ++ be2 (flagsN m.hd)) (B := be2 m.ans.length ++ (be2 m.auth.length ++ (be2 k3 ++ Z))) (by simp only [List.append_assoc]; exact hS1) rfl (by omega),
    num2_at' (A := be2 m.hd.id ++ be2 (flagsN m.hd) ++ be2 m.qs.length) (B := be2 m.auth.length ++ (be2 k3 ++ Z)) (by simp only [List.append_assoc]; exact hS1) rfl (by omega),
    num2_at' (A := be2 m.hd.id ++ be2 (flagsN m.hd) ++ be2 m.qs.length ++ be2 m.ans.length) (B := be2 k3 ++ Z) (by simp only [List.append_assoc]; exact hS1) rfl (by omega),
    num2_at' (A := be2 m.hd.id ++ be2 (flagsN m.hd) ++ be2 m.qs.length ++ be2 m.ans.length ++ be2 m.auth.length) (B := Z) (by simp only [List.append_assoc]; exact hS1) rfl (by omega)⟩
/-- What is read of bytes that begin as a message's do, to a part's end. -/
theorem read_q {m : Msg} {H z : Bs} {a : Bs × Tab} (hl : MayL m) (hL : MsgL m) (hHl : H.length = 12) (q1 : quesW m.qs 12 [] = some a) :
    decQ (H ++ (a.1 ++ z)) m.qs.length 12 [] = (0, 12 + a.1.length, m.qs) ∧ TabOk (H ++ a.1) a.2 := by
  obtain ⟨dq, t1⟩ := decQ_back (z := z) m.qs H [] [] a (fun q hq => ⟨hl.qs q hq, hL.qs q hq⟩) (tab_nil H) (by rw [hHl]; exact q1)
  rw [hHl, List.nil_append] at dq
  exact ⟨dq, t1⟩
theorem read_s {P z : Bs} {t : Tab} {l : List Rec} {x : Bs × Tab} {sec p : Nat} (hp : p = P.length) (hl : ∀ r ∈ l, RecM r) (ht : TabOk P t) (h : recsW l p t = some x) :
    decS (P ++ (x.1 ++ z)) sec l.length ⟨p, [], false, noEd⟩ = (0, ⟨p + x.1.length, l, false, noEd⟩) ∧ TabOk (P ++ x.1) x.2 := by
  subst hp
  obtain ⟨d1, t2⟩ := decS_back (sec := sec) (has := false) (ed := noEd) (z := z) l P t [] x hl ht h
  rw [List.nil_append] at d1
  exact ⟨d1, t2⟩
theorem dec_cut {m : Msg} {s : Bs} {j : Nat} (hL : MsgL m) (h : encN m = (0, s)) (hj : j < s.length) : decN (s.take j) = (4, noMsg) := by
  obtain ⟨H, a, c, d, e, o, k3, hs, hHl, hl, h65, hnum, q1, q2, q3, q4, ho, hk3⟩ := enc_parts hL h
  have hlen : s.length = 12 + a.1.length + c.1.length + d.1.length + e.1.length + o.length := by rw [hs]; simp only [List.length_append, hHl]; omega
  have hTl : (s.take j).length = j := by rw [List.length_take]; omega
  by_cases h12 : j < 12
  · exact decN_err (n := 4) (m := noMsg) (by rw [decB_eq, if_neg (by omega), if_pos (by omega)]) (by decide)
  have hcutp : ∀ P R : Bs, s = P ++ R → P.length ≤ j → ∃ z, s.take j = P ++ z := fun P R e1 e2 => ⟨_, by rw [e1]; exact take_out e2⟩
  obtain ⟨Z0, hZ0⟩ := hcutp H _ hs (by omega)
  obtain ⟨n0, n2, n4, n6, n8, n10⟩ := hnum Z0
  rw [← hZ0] at n0 n2 n4 n6 n8 n10
  obtain ⟨T, hT⟩ : ∃ T, s.take j = T := ⟨_, rfl⟩
  rw [hT] at hcutp hTl n0 n2 n4 n6 n8 n10 ⊢
  have hra : ∀ r ∈ m.ans, RecM r := fun r hr => ⟨(hl.ans r hr).1, (hl.ans r hr).2, hL.ans r hr⟩
  have hru : ∀ r ∈ m.auth, RecM r := fun r hr => ⟨(hl.auth r hr).1, (hl.auth r hr).2, hL.auth r hr⟩
  have hrx : ∀ r ∈ m.extra, RecM r := fun r hr => ⟨(hl.extra r hr).1, (hl.extra r hr).2, hL.extra r hr⟩
  by_cases ha : j < 12 + a.1.length
  · have := decQ_cut (z := c.1 ++ (d.1 ++ (e.1 ++ o))) (j := j) m.qs H [] [] a (fun q hq => ⟨hl.qs q hq, hL.qs q hq⟩) (tab_nil H) (by rw [hHl]; exact q1) (by omega) (by omega)
    rw [← hs, hT, hHl] at this
    exact decN_q (by omega) (by omega) (by rw [n4]; exact this) (by decide)
  obtain ⟨Z1, hZ1⟩ := hcutp (H ++ a.1) (c.1 ++ (d.1 ++ (e.1 ++ o))) (by rw [hs]; simp only [List.append_assoc]) (by rw [List.length_append]; omega)
  obtain ⟨dq, t1⟩ := read_q (z := Z1) hl hL hHl q1
  rw [← List.append_assoc, ← hZ1] at dq
  have hdB : decB T = fin T (secRem 1) (12 + a.1.length) (qMsg T m.qs) := decB_q (by omega) (by omega) (by rw [n4]; exact dq)
  have hp1 : 12 + a.1.length = (H ++ a.1).length := by rw [List.length_append]; omega
  by_cases hc : j < 12 + a.1.length + c.1.length
  · have := decS_cut (sec := 1) (z := d.1 ++ (e.1 ++ o)) (has := false) (ed := noEd) (j := j) (more := 0) m.ans (H ++ a.1) a.2 [] c hra t1 (by rw [← hp1]; exact q2) (by omega) (by omega)
    rw [show H ++ a.1 ++ (c.1 ++ (d.1 ++ (e.1 ++ o))) = s by rw [hs]; simp only [List.append_assoc], hT, ← hp1] at this
    exact decN_err (n := 4) (m := noMsg) (by rw [hdB]; exact fin_1 (by omega) (by omega) (by rw [show 4 + 2 * 1 = 6 from rfl, n6]; exact this) (by decide)) (by decide)
  obtain ⟨Z2, hZ2⟩ := hcutp (H ++ a.1 ++ c.1) (d.1 ++ (e.1 ++ o)) (by rw [hs]; simp only [List.append_assoc]) (by simp only [List.length_append]; omega)
  obtain ⟨d1, t2⟩ := read_s (z := Z2) (sec := 1) hp1 hra t1 q2
  rw [← List.append_assoc, ← hZ2] at d1
  have f1 := fin_2 (s := T) (i := 1) (p := 12 + a.1.length) (m := qMsg T m.qs) (x := ⟨12 + a.1.length + c.1.length, m.ans, false, noEd⟩) (by omega) (by omega) (by rw [show 4 + 2 * 1 = 6 from rfl, n6]; exact d1)
  have hp2 : 12 + a.1.length + c.1.length = (H ++ a.1 ++ c.1).length := by simp only [List.length_append]; omega
  by_cases hd : j < 12 + a.1.length + c.1.length + d.1.length
  · have := decS_cut (sec := 2) (z := e.1 ++ o) (has := false) (ed := noEd) (j := j) (more := 0) m.auth (H ++ a.1 ++ c.1) c.2 [] d hru t2 (by rw [← hp2]; exact q3) (by omega) (by omega)
    rw [show H ++ a.1 ++ c.1 ++ (d.1 ++ (e.1 ++ o)) = s by rw [hs]; simp only [List.append_assoc], hT, ← hp2] at this
    exact decN_err (n := 4) (m := noMsg) (by rw [hdB, f1]; exact fin_1 (i := 2) (by omega) (by omega) (by rw [show 4 + 2 * 2 = 8 from rfl, n8]; exact this) (by decide)) (by decide)
  obtain ⟨Z3, hZ3⟩ := hcutp (H ++ a.1 ++ c.1 ++ d.1) (e.1 ++ o) (by rw [hs]; simp only [List.append_assoc]) (by simp only [List.length_append]; omega)
  obtain ⟨d2, t3⟩ := read_s (z := Z3) (sec := 2) hp2 hru t2 q3
  rw [← List.append_assoc, ← hZ3] at d2
  have f2 := fin_2 (s := T) (i := 2) (p := 12 + a.1.length + c.1.length) (m := setSec (qMsg T m.qs) 1 m.ans false noEd) (x := ⟨12 + a.1.length + c.1.length + d.1.length, m.auth, false, noEd⟩) (by omega) (by omega) (by rw [show 4 + 2 * 2 = 8 from rfl, n8]; exact d2)
  have hp3 : 12 + a.1.length + c.1.length + d.1.length = (H ++ a.1 ++ c.1 ++ d.1).length := by simp only [List.length_append]; omega
  have hlast : (decS T 3 k3 ⟨12 + a.1.length + c.1.length + d.1.length, [], false, noEd⟩).1 = 4 := by
    by_cases he : j < 12 + a.1.length + c.1.length + d.1.length + e.1.length
    · have := decS_cut (sec := 3) (z := o) (has := false) (ed := noEd) (j := j) (more := if m.has = true then 1 else 0) m.extra (H ++ a.1 ++ c.1 ++ d.1) d.2 [] e hrx t3 (by rw [← hp3]; exact q4) (by omega) (by omega)
      rw [show H ++ a.1 ++ c.1 ++ d.1 ++ (e.1 ++ o) = s by rw [hs]; simp only [List.append_assoc], hT, ← hp3, ← hk3] at this
      exact this
    · obtain ⟨Z4, hZ4⟩ := hcutp (H ++ a.1 ++ c.1 ++ d.1 ++ e.1) o (by rw [hs]; simp only [List.append_assoc]) (by simp only [List.length_append]; omega)
      obtain ⟨d3, t4⟩ := read_s (z := Z4) (sec := 3) hp3 hrx t3 q4
      rw [← List.append_assoc, ← hZ4] at d3
      unfold lastW at ho
      cases hh : m.has with
      | false => rw [hh, if_neg (by simp)] at ho; obtain rfl := Option.some.inj ho; simp at hlen; omega
      | true =>
        rw [hh, if_pos rfl] at ho
        rw [hh, if_pos rfl] at hk3
        obtain ⟨dd, hdd, rfl⟩ := Option.map_eq_some_iff.1 ho
        have hol : (optW m.ed dd).length = 11 + dd.length := by simp only [optW, List.length_cons, List.length_append, be2_len, be4_len]; omega
        have hP : (H ++ a.1 ++ c.1 ++ d.1 ++ e.1).length = 12 + a.1.length + c.1.length + d.1.length + e.1.length := by simp only [List.length_append]; omega
        have hcut := optR_cut (pre := H ++ a.1 ++ c.1 ++ d.1 ++ e.1) (d := dd) (e := m.ed) (j := j) (x := ⟨12 + a.1.length + c.1.length + d.1.length + e.1.length, m.extra, false, noEd⟩) hP.symm (by omega) (by omega) (by omega)
        rw [show H ++ a.1 ++ c.1 ++ d.1 ++ e.1 ++ optW m.ed dd = s by rw [hs]; simp only [List.append_assoc], hT] at hcut
        rw [hk3, decS_add _ _ _ _ d3, decS_1 Nat.one_pos (by rw [hcut]; omega)]
        exact hcut
  exact decN_err (n := 4) (m := noMsg) (by rw [hdB, f1, f2]; exact fin_1 (i := 3) (by omega) (by omega) (by rw [show 4 + 2 * 3 = 10 from rfl, n10]; exact hlast) (by decide)) (by decide)
theorem dec_more {m : Msg} {s w : Bs} (hL : MsgL m) (h : encN m = (0, s)) (hw : w ≠ []) : decN (s ++ w) = (5, noMsg) := by
  obtain ⟨H, a, c, d, e, o, k3, hs, hHl, hl, h65, hnum, q1, q2, q3, q4, ho, hk3⟩ := enc_parts hL h
  have hlen : s.length = 12 + a.1.length + c.1.length + d.1.length + e.1.length + o.length := by rw [hs]; simp only [List.length_append, hHl]; omega
  have hwl : 0 < w.length := List.length_pos_iff.2 hw
  obtain ⟨T, hT⟩ : ∃ T, s ++ w = T := ⟨_, rfl⟩
  have hTl : T.length = s.length + w.length := by rw [← hT, List.length_append]
  have hTe : T = H ++ (a.1 ++ (c.1 ++ (d.1 ++ (e.1 ++ (o ++ w))))) := by rw [← hT, hs]; simp only [List.append_assoc]
  rw [hT]
  by_cases hbig : 65535 < T.length
  · exact decN_err (n := 5) (m := noMsg) (by rw [decB_eq, if_pos hbig]) (by decide)
  obtain ⟨n0, n2, n4, n6, n8, n10⟩ := hnum (a.1 ++ (c.1 ++ (d.1 ++ (e.1 ++ (o ++ w)))))
  rw [← hTe] at n0 n2 n4 n6 n8 n10
  have hra : ∀ r ∈ m.ans, RecM r := fun r hr => ⟨(hl.ans r hr).1, (hl.ans r hr).2, hL.ans r hr⟩
  have hru : ∀ r ∈ m.auth, RecM r := fun r hr => ⟨(hl.auth r hr).1, (hl.auth r hr).2, hL.auth r hr⟩
  have hrx : ∀ r ∈ m.extra, RecM r := fun r hr => ⟨(hl.extra r hr).1, (hl.extra r hr).2, hL.extra r hr⟩
  obtain ⟨dq, t1⟩ := read_q (z := c.1 ++ (d.1 ++ (e.1 ++ (o ++ w)))) hl hL hHl q1
  rw [← hTe] at dq
  have hp1 : 12 + a.1.length = (H ++ a.1).length := by rw [List.length_append]; omega
  obtain ⟨d1, t2⟩ := read_s (z := d.1 ++ (e.1 ++ (o ++ w))) (sec := 1) hp1 hra t1 q2
  rw [show H ++ a.1 ++ (c.1 ++ (d.1 ++ (e.1 ++ (o ++ w)))) = T by rw [hTe]; simp only [List.append_assoc]] at d1
  have hp2 : 12 + a.1.length + c.1.length = (H ++ a.1 ++ c.1).length := by simp only [List.length_append]; omega
  obtain ⟨d2, t3⟩ := read_s (z := e.1 ++ (o ++ w)) (sec := 2) hp2 hru t2 q3
  rw [show H ++ a.1 ++ c.1 ++ (d.1 ++ (e.1 ++ (o ++ w))) = T by rw [hTe]; simp only [List.append_assoc]] at d2
  have hp3 : 12 + a.1.length + c.1.length + d.1.length = (H ++ a.1 ++ c.1 ++ d.1).length := by simp only [List.length_append]; omega
  obtain ⟨d3, t4⟩ := read_s (z := o ++ w) (sec := 3) hp3 hrx t3 q4
  have hS3 : H ++ a.1 ++ c.1 ++ d.1 ++ (e.1 ++ (o ++ w)) = T := by rw [hTe]; simp only [List.append_assoc]
  rw [hS3] at d3
  have d4 : decS T 3 k3 ⟨12 + a.1.length + c.1.length + d.1.length, [], false, noEd⟩ = (0, ⟨s.length, m.extra, m.has, m.ed⟩) := by
    unfold lastW at ho
    cases hh : m.has with
    | false =>
      rw [hh, if_neg (by simp)] at ho
      rw [hh, if_neg (by simp), Nat.add_zero] at hk3
      obtain rfl := Option.some.inj ho
      have hbe : m.ed = noEd := by
        rcases hl.bare with h | h
        · rw [hh] at h; cases h
        · exact bare_no h
      rw [hk3, d3, hbe, hlen]; rfl
    | true =>
      rw [hh, if_pos rfl] at ho
      rw [hh, if_pos rfl] at hk3
      obtain ⟨dd, hdd, rfl⟩ := Option.map_eq_some_iff.1 ho
      have hol : (optW m.ed dd).length = 11 + dd.length := by simp only [optW, List.length_cons, List.length_append, be2_len, be4_len]; omega
      have hor := optR_back (pre := H ++ a.1 ++ c.1 ++ d.1 ++ e.1) (z := w) (acc := m.extra) (ed := noEd) hL.ed hdd (by omega)
      rw [show H ++ a.1 ++ c.1 ++ d.1 ++ e.1 ++ (optW m.ed dd ++ w) = T by rw [← hS3]; simp only [List.append_assoc]] at hor
      simp only [List.length_append, hHl] at hor
      rw [hk3, decS_add _ _ _ _ d3, decS_2 Nat.one_pos hor]
      rw [hlen]; rfl
  have hdB : decB T = fin T 3 (12 + a.1.length) (qMsg T m.qs) := decB_q (by omega) (by omega) (by rw [n4]; exact dq)
  have f1 := fin_2 (s := T) (i := 1) (p := 12 + a.1.length) (m := qMsg T m.qs) (x := ⟨12 + a.1.length + c.1.length, m.ans, false, noEd⟩) (by omega) (by omega) (by rw [show 4 + 2 * 1 = 6 from rfl, n6]; exact d1)
  have f2 := fin_2 (s := T) (i := 2) (p := 12 + a.1.length + c.1.length) (m := setSec (qMsg T m.qs) 1 m.ans false noEd) (x := ⟨12 + a.1.length + c.1.length + d.1.length, m.auth, false, noEd⟩) (by omega) (by omega) (by rw [show 4 + 2 * 2 = 8 from rfl, n8]; exact d2)
  have f3 := fin_2 (s := T) (i := 3) (p := 12 + a.1.length + c.1.length + d.1.length) (m := setSec (setSec (qMsg T m.qs) 1 m.ans false noEd) 2 m.auth false noEd) (x := ⟨s.length, m.extra, m.has, m.ed⟩) (by omega) (by omega) (by rw [show 4 + 2 * 3 = 10 from rfl, n10]; exact d4)
  have hend : fin T (secRem (3 + 1)) s.length (setSec (setSec (setSec (qMsg T m.qs) 1 m.ans false noEd) 2 m.auth false noEd) 3 m.extra m.has m.ed) = (5, noMsg) := by
    show (if s.length < T.length then (5, noMsg) else _) = (5, noMsg)
    rw [if_pos (by omega)]
  exact decN_err (n := 5) (m := noMsg) (by rw [hdB]; exact (f1.trans (f2.trans (f3.trans hend)))) (by decide)
end Go.Proofs.YtpoebplhemimmaaGreatDoor
