/-
  Data by their types, in plain lists: what package rdata computes is what the document says. No program is in sight here.
-/
import Derived.Test.YtpoebplhemimmaaGreatDoorSpec
namespace Go.Proofs.YtpoebplhemimmaaGreatDoor
set_option linter.unusedVariables false

/-- A name that is read has the bytes that came ahead, and one more at least, no pointer's. -/
theorem readG_acc {msg : Bs} : ∀ (f : Nat) {p ahead : Nat} {nx : Option Nat} {acc : Bs}, (readG msg f p ahead nx acc).1 = 0 → ∃ x t, (readG msg f p ahead nx acc).2.1 = acc ++ x :: t ∧ x.toNat < 64
  | 0, _, _, _, _, h => by simp [readG] at h
  | f + 1, p, ahead, nx, acc, h => by
    unfold readG at h ⊢
    split at h
    · simp at h
    rename_i h1
    rw [if_neg h1]
    split at h
    · rename_i h2
      rw [if_pos h2]
      exact ⟨0, [], rfl, by decide⟩
    rename_i h2
    rw [if_neg h2]
    split at h
    · rename_i h3
      rw [if_pos h3]
      split at h
      · simp at h
      rename_i h4
      rw [if_neg h4]
      split at h
      · simp at h
      rename_i h5
      rw [if_neg h5]
      exact readG_acc f h
    · rename_i h3
      rw [if_neg h3]
      split at h
      · simp at h
      rename_i h4
      rw [if_neg h4]
      split at h
      · simp at h
      rename_i h5
      rw [if_neg h5]
      split at h
      · simp at h
      rename_i h6
      rw [if_neg h6]
      obtain ⟨x, t, he, hx⟩ := readG_acc f h
      have hlt : p < msg.length := by omega
      have hg : msg.getD p 0 = msg[p] := by simp [List.getD_eq_getElem?_getD, hlt]
      have hd : (msg.take (p + 1 + (msg.getD p 0).toNat)).drop p = msg.getD p 0 :: (msg.drop (p + 1)).take (msg.getD p 0).toNat := by
        rw [List.drop_take, List.drop_eq_getElem_cons hlt, show p + 1 + (msg.getD p 0).toNat - p = (msg.getD p 0).toNat + 1 by omega, List.take_succ_cons, hg]
      rw [he, hd]
      exact ⟨_, _, by rw [List.append_assoc, List.cons_append], by omega⟩

theorem take_drop_split {msg : Bs} {p k q : Nat} (h1 : p ≤ k) (h2 : k ≤ q) (h3 : q ≤ msg.length) : (msg.take q).drop p = (msg.take k).drop p ++ (msg.take q).drop k := by
  have e : msg.take q = msg.take k ++ (msg.take q).drop k := by
    have := List.take_append_drop k (msg.take q)
    rw [List.take_take, Nat.min_eq_left h2] at this
    exact this.symm
  conv => lhs; rw [e]
  rw [List.drop_append_of_le_length (by simp; omega)]

/-- Two texts that part at a byte that is below 64 in one, and 192 at least in the other. -/
def Part2 (a b : Bs) : Prop := ∃ c x y s t, a = c ++ x :: s ∧ b = c ++ y :: t ∧ x.toNat < 64 ∧ 192 ≤ y.toNat

theorem readG_raw {msg : Bs} : ∀ (f : Nat) {p ahead : Nat} {acc : Bs}, (readG msg f p ahead none acc).1 = 0 →
    ∃ n, (readG msg f p ahead none acc).2.1 = acc ++ n ∧ (n = (msg.take (readG msg f p ahead none acc).2.2).drop p ∨ Part2 n ((msg.take (readG msg f p ahead none acc).2.2).drop p))
  | 0, _, _, _, h => by simp [readG] at h
  | f + 1, p, ahead, acc, h => by
    unfold readG at h ⊢
    split at h
    · simp at h
    rename_i h1
    rw [if_neg h1]
    have hlt : p < msg.length := by omega
    have hg : msg.getD p 0 = msg[p] := by simp [List.getD_eq_getElem?_getD, hlt]
    have hd : ∀ k, (msg.take (p + 1 + k)).drop p = msg.getD p 0 :: (msg.drop (p + 1)).take k := fun k => by
      rw [List.drop_take, List.drop_eq_getElem_cons hlt, show p + 1 + k - p = k + 1 by omega, List.take_succ_cons, hg]
    split at h
    · rename_i h2
      rw [if_pos h2]
      have h0 : msg.getD p 0 = 0 := UInt8.toNat_inj.1 h2
      refine ⟨[0], rfl, .inl ?_⟩
      have := hd 0
      simp only [Option.getD_none, Nat.add_zero, List.take_zero, h0] at this ⊢
      exact this.symm
    rename_i h2
    rw [if_neg h2]
    split at h
    · rename_i h3
      rw [if_pos h3]
      split at h
      · simp at h
      rename_i h4
      rw [if_neg h4]
      split at h
      · simp at h
      rename_i h5
      rw [if_neg h5]
      obtain ⟨x, t, he, hx⟩ := readG_acc f h
      have hn := (readG_next f (nx := some ((none : Option Nat).getD (p + 2))) (fun y hy => by simp at hy; omega) h).2.2 _ rfl
      rw [he, hn]
      exact ⟨x :: t, rfl, .inr ⟨[], x, msg.getD p 0, t, (msg.drop (p + 1)).take 1, rfl, hd 1, hx, h3⟩⟩
    · rename_i h3
      rw [if_neg h3]
      split at h
      · simp at h
      rename_i h4
      rw [if_neg h4]
      split at h
      · simp at h
      rename_i h5
      rw [if_neg h5]
      split at h
      · simp at h
      rename_i h6
      rw [if_neg h6]
      obtain ⟨n, he, hn⟩ := readG_raw f h
      have hnx := readG_next f (nx := none) (by simp) h
      have hlt2 := hnx.2.1 rfl
      rw [he]
      refine ⟨_, by rw [List.append_assoc], ?_⟩
      rw [take_drop_split (p := p) (k := p + 1 + (msg.getD p 0).toNat) (by omega) (by omega) hnx.1]
      rcases hn with rfl | ⟨c, x, y, s, t, e1, e2, hx, hy⟩
      · exact .inl rfl
      · refine .inr ⟨(msg.take (p + 1 + (msg.getD p 0).toNat)).drop p ++ c, x, y, s, t, ?_, ?_, hx, hy⟩
        · rw [e1, List.append_assoc]
        · rw [e2, List.append_assoc]

theorem readAt_raw {msg : Bs} {q : Nat} (h : (readAt msg q).1 = 0) : (readAt msg q).2.1 = (msg.take (readAt msg q).2.2).drop q ∨ Part2 (readAt msg q).2.1 ((msg.take (readAt msg q).2.2).drop q) := by
  unfold readAt at h ⊢
  split at h
  · simp at h
  rename_i h1
  rw [if_neg h1]
  obtain ⟨n, he, hn⟩ := readG_raw _ h
  rw [he, List.nil_append]
  exact hn
theorem part2_ne {a b : Bs} (h : Part2 a b) {s t : Bs} : a ++ s ≠ b ++ t := by
  obtain ⟨c, x, y, u, v, rfl, rfl, hx, hy⟩ := h
  intro e
  rw [List.append_assoc, List.append_assoc] at e
  have := List.append_cancel_left e
  simp only [List.cons_append, List.cons.injEq] at this
  rw [this.1] at hx; omega

theorem readG_255 {msg : Bs} : ∀ (f : Nat) {p ahead : Nat} {nx : Option Nat} {acc : Bs}, acc.length ≤ 254 → (readG msg f p ahead nx acc).2.1.length ≤ 255
  | 0, _, _, _, _, _ => by simp [readG]
  | f + 1, p, ahead, nx, acc, ha => by
    unfold readG
    repeat' split
    all_goals first
      | (simp; done)
      | (simp only [List.length_append, List.length_singleton]; omega)
      | exact readG_255 f ha
      | exact readG_255 f (by omega)
theorem readAt_255 (msg : Bs) (q : Nat) : (readAt msg q).2.1.length ≤ 255 := by
  unfold readAt; split
  · simp
  · exact readG_255 _ (by simp)

def flt (l : Pieces) : Bs := (l.map (·.1)).flatten
def foldP (l : Pieces) : Bs := (l.map fun p => if p.2 then fold p.1 else p.1).flatten
theorem flt_append (a b : Pieces) : flt (a ++ b) = flt a ++ flt b := by simp [flt]
theorem foldP_append (a b : Pieces) : foldP (a ++ b) = foldP a ++ foldP b := by simp [foldP]

/-- Whole data and the document's pieces: what is asked to be the same. -/
def Agree (kind : Nat) (data : Bs) : Prop := ((refW kind data).isSome = dmayB kind data) ∧ refFold kind data = dfold kind data ∧ (dmayB kind data = true → flt (readD data 0 kind true).2 = data)

/-- One name that stands whole. -/
theorem named_whole {msg : Bs} {p : Nat} {q : Pieces} : doPart msg true p q .named = if (readAt msg p).1 ≠ 0 then ((readAt msg p).1, p, q) else if (readAt msg p).2.1 ≠ (msg.take (readAt msg p).2.2).drop p then (3, p, q) else (0, (readAt msg p).2.2, q ++ [((readAt msg p).2.1, true)]) := by
  rw [doPart]; simp

theorem refW_of {kind : Nat} {data : Bs} {e : Nat} {l : Pieces} (h : refP data 0 kind = (e, l)) : refW kind data = if e ≠ 0 ∨ flt l ≠ data then none else some l := by
  rw [refW, h]; rfl
theorem agree_no {kind : Nat} {data : Bs} {e : Nat} {l : Pieces} (h1 : refW kind data = none) (h2 : readD data 0 kind true = (e, l)) (he : e ≠ 0) (hl : l = []) : Agree kind data := by
  subst hl
  refine ⟨by rw [h1, dmayB, h2]; simp [he], by rw [refFold, h1, dfold, h2]; rfl, fun h => ?_⟩
  rw [dmayB, h2] at h; simp [he] at h
theorem agree_yes {kind : Nat} {data : Bs} {l m : Pieces} (h1 : refW kind data = some l) (h2 : readD data 0 kind true = (0, m)) (hf : foldP l = foldP m) (hd : flt m = data) : Agree kind data := by
  refine ⟨by rw [h1, dmayB, h2]; rfl, by rw [refFold, h1, dfold, h2]; exact hf, fun _ => by rw [h2]; exact hd⟩

theorem doParts_one {msg : Bs} {x : Part} {p : Nat} {q : Pieces} : doParts msg true [x] p q = doPart msg true p q x := by
  rw [doParts]
  obtain ⟨e, p', q'⟩ := doPart msg true p q x
  cases e <;> rfl
theorem agree_rest {kind : Nat} {data : Bs} (hk : partsOf kind = some [.rest]) (hr : refP data 0 kind = (0, [(data.drop 0, false)])) : Agree kind data := by
  refine agree_yes (l := [(data.drop 0, false)]) (m := [(data.drop 0, false)]) ?_ ?_ rfl (by simp [flt])
  · rw [refW_of hr, if_neg (by simp [flt])]
  · rw [readD, hk]; show readE data _ = _; simp [readE, doParts, doPart]
theorem agree_none {kind : Nat} {data : Bs} (hk : partsOf kind = none) (hr : refP data 0 kind = (3, [])) : Agree kind data := by
  refine agree_no (e := 3) (l := []) ?_ ?_ (by decide) rfl
  · rw [refW_of hr, if_pos (by simp)]
  · rw [readD, hk]
theorem agree_fixed {kind : Nat} {data : Bs} {n : Nat} (hk : partsOf kind = some [.fixed n]) (hl : layoutF kind = (n, 0, 0, true)) (h41 : kind ≠ 41) (h16 : kind ≠ 16) : Agree kind data := by
  have hr : refP data 0 kind = if data.length < n then (4, []) else if 0 < data.length - n then (3, []) else (0, [((data.take n).drop 0, false)] ++ [(data.drop n, false)]) := by
    rw [refP, if_neg h41, if_neg h16, hl]; simp [rNames]
  have hd : readD data 0 kind true = if data.length < n then (4, []) else if n < data.length then (3, []) else (0, [((data.drop 0).take n, false)]) := by
    rw [readD, hk]
    show readE data (doParts data true [.fixed n] 0 []) = _
    rw [doParts_one, readE, doPart, Nat.zero_add]
    by_cases h : data.length < n
    · simp [h]
    · simp [h]
  by_cases h : data.length < n
  · rw [if_pos h] at hr hd
    exact agree_no (by rw [refW_of hr, if_pos (by simp)]) hd (by decide) rfl
  · rw [if_neg h] at hr hd
    by_cases h2 : n < data.length
    · rw [if_pos (by omega)] at hr
      rw [if_pos h2] at hd
      exact agree_no (by rw [refW_of hr, if_pos (by simp)]) hd (by decide) rfl
    · rw [if_neg (by omega)] at hr
      rw [if_neg h2] at hd
      have e1 : data.take n = data := List.take_of_length_le (by omega)
      have e2 : data.drop n = [] := List.drop_eq_nil_of_le (by omega)
      rw [List.drop_zero, e1, e2] at hr
      rw [List.drop_zero, e1] at hd
      exact agree_yes (by rw [refW_of hr, if_neg (by simp [flt])]) hd (by simp [foldP]) (by simp [flt])

theorem texts_law {msg : Bs} : ∀ (f p : Nat) (q : Pieces), p < msg.length → msg.length - p < f →
    (rTextsG msg f p = true ∧ ∃ x, textsG msg f p q = (0, msg.length, q ++ x) ∧ flt x = msg.drop p ∧ foldP x = msg.drop p) ∨ (rTextsG msg f p = false ∧ (textsG msg f p q).1 = 4)
  | 0, _, _, _, h => by omega
  | f + 1, p, q, hp, hf => by
    rw [rTextsG, textsG, if_neg (show ¬ msg.length ≤ p by omega), if_neg (show ¬ msg.length ≤ p by omega)]
    by_cases h1 : msg.length < p + 1 + (msg.getD p 0).toNat
    · rw [if_pos h1, if_pos h1]; exact .inr ⟨rfl, rfl⟩
    · rw [if_neg h1, if_neg h1]
      have hs := take_drop_split (msg := msg) (p := p) (k := p + 1 + (msg.getD p 0).toNat) (q := msg.length) (by omega) (by omega) (Nat.le_refl _)
      rw [List.take_length] at hs
      by_cases h2 : msg.length ≤ p + 1 + (msg.getD p 0).toNat
      · rw [if_pos h2]
        have e : p + 1 + (msg.getD p 0).toNat = msg.length := by omega
        rw [e, List.take_length]
        refine .inl ⟨?_, _, rfl, by simp [flt], by simp [foldP]⟩
        cases f with
        | zero => omega
        | succ f => rw [rTextsG, if_pos (Nat.le_refl _)]
      · rw [if_neg h2]
        rcases texts_law (msg := msg) f (p + 1 + (msg.getD p 0).toNat) (q ++ [((msg.take (p + 1 + (msg.getD p 0).toNat)).drop p, false)]) (by omega) (by omega) with ⟨h3, x, h4, h5, h6⟩ | ⟨h3, h4⟩
        · refine .inl ⟨h3, ((msg.take (p + 1 + (msg.getD p 0).toNat)).drop p, false) :: x, by rw [h4, List.append_assoc]; rfl, ?_, ?_⟩
          · rw [hs, ← h5]; simp [flt]
          · rw [hs, ← h6]; simp [foldP]
        · exact .inr ⟨h3, h4⟩

theorem agree_texts {data : Bs} : Agree 16 data := by
  have hr : refP data 0 16 = rTexts data := by rw [refP, if_neg (by decide), if_pos rfl, List.drop_zero]
  have hd : readD data 0 16 true = readE data (textsG data (data.length + 1) 0 []) := by
    rw [readD, show partsOf 16 = some [.texts] from rfl]
    show readE data (doParts data true [.texts] 0 []) = _
    rw [doParts_one, doPart]
  by_cases h0 : data = []
  · subst h0
    exact agree_no (e := 4) (by rw [refW_of hr, if_pos (by simp)]) (by rw [hd]; rfl) (by decide) rfl
  · have hlen : 0 < data.length := List.length_pos_iff.2 h0
    rcases texts_law (data.length + 1) 0 [] hlen (by omega) with ⟨h3, x, h4, h5, h6⟩ | ⟨h3, h4⟩
    · have hr' : refP data 0 16 = (0, [(data, false)]) := by rw [hr, rTexts, if_neg h0, if_pos h3]
      rw [List.drop_zero] at h5 h6
      refine agree_yes (by rw [refW_of hr', if_neg (by simp [flt])]) (m := x) ?_ ?_ h5
      · rw [hd, h4, readE]; simp
      · rw [h6]; simp [foldP]
    · have hr' : refP data 0 16 = (4, []) := by rw [hr, rTexts, if_neg h0, if_neg (by simp [h3])]
      refine agree_no (e := 4) (by rw [refW_of hr', if_pos (by simp)]) ?_ (by decide) rfl
      rw [hd, readE, if_neg (by omega), h4]

theorem agree_name {kind : Nat} {data : Bs} {n : Nat} (hl : layoutF kind = (n, 1, 0, true)) (h41 : kind ≠ 41) (h16 : kind ≠ 16)
    (hd : readD data 0 kind true = if data.length < n then (4, []) else readE data (doPart data true n (if n = 0 then [] else [((data.drop 0).take n, false)]) .named)) : Agree kind data := by
  by_cases h : data.length < n
  · rw [if_pos h] at hd
    refine agree_no (e := 4) (l := []) ?_ hd (by decide) rfl
    rw [refW_of (e := 4) (l := []), if_pos (by simp)]
    rw [refP, if_neg h41, if_neg h16, hl]; simp [h]
  rw [if_neg h, named_whole] at hd
  have hr : refP data 0 kind = if (readAt data n).1 ≠ 0 then ((readAt data n).1, []) else if 0 < data.length - (readAt data n).2.2 then (3, []) else (0, [((data.take n).drop 0, false), ((readAt data n).2.1, true), (data.drop (readAt data n).2.2, false)]) := by
    rw [refP, if_neg h41, if_neg h16, hl]
    simp only [Nat.sub_zero, Nat.zero_add, rNames, Bool.true_eq_false, if_false, h]
    by_cases he : (readAt data n).1 ≠ 0
    · simp [he]
    · simp only [he, if_false, ne_eq, not_true_eq_false, Nat.not_lt_zero]
      try rfl
  by_cases he : (readAt data n).1 ≠ 0
  · rw [if_pos he] at hr hd
    refine agree_no (e := (readAt data n).1) (l := []) ?_ ?_ he rfl
    · rw [refW_of hr, if_pos (.inl he)]
    · rw [hd, readE, if_neg he]
  rw [if_neg he] at hr hd
  obtain ⟨hx1, hx2⟩ := readAt_next (msg := data) (q := n) (by omega)
  have hraw := readAt_raw (msg := data) (q := n) (by omega)
  by_cases h0 : 0 < data.length - (readAt data n).2.2
  · rw [if_pos h0] at hr
    refine agree_no (e := 3) (l := []) (by rw [refW_of hr, if_pos (by simp)]) ?_ (by decide) rfl
    rw [hd]
    split
    · rfl
    · rw [readE, if_pos rfl, if_pos (by simp only; omega)]
  rw [if_neg h0] at hr
  have hnx : (readAt data n).2.2 = data.length := by omega
  have hfl : flt [((data.take n).drop 0, false), ((readAt data n).2.1, true), (data.drop (readAt data n).2.2, false)] = data.take n ++ (readAt data n).2.1 := by
    rw [hnx]; simp [flt]
  have hda : data = data.take n ++ data.drop n := (List.take_append_drop n data).symm
  rw [hnx, List.take_length] at hraw hd
  by_cases hw : (readAt data n).2.1 ≠ data.drop n
  · rw [if_pos hw] at hd
    have hne : flt [((data.take n).drop 0, false), ((readAt data n).2.1, true), (data.drop (readAt data n).2.2, false)] ≠ data := by
      rw [hfl]
      intro e
      apply hw
      have : data.take n ++ (readAt data n).2.1 = data.take n ++ data.drop n := e.trans hda
      exact List.append_cancel_left this
    refine agree_no (e := 3) (l := []) ?_ hd (by decide) rfl
    rw [refW_of hr, if_pos (.inr hne)]
  · rw [if_neg hw] at hd
    have hw' : (readAt data n).2.1 = data.drop n := Classical.not_not.1 hw
    refine agree_yes (l := [((data.take n).drop 0, false), ((readAt data n).2.1, true), (data.drop (readAt data n).2.2, false)]) (m := (if n = 0 then [] else [((data.drop 0).take n, false)]) ++ [((readAt data n).2.1, true)]) ?_ ?_ ?_ ?_
    · have hno : ¬ ((0 : Nat) ≠ 0 ∨ flt [((data.take n).drop 0, false), ((readAt data n).2.1, true), (data.drop (readAt data n).2.2, false)] ≠ data) := by
        rintro (e | e)
        · exact e rfl
        · apply e; rw [hfl, hw']; exact hda.symm
      rw [refW_of hr, if_neg hno]
    · rw [hd, readE, if_pos rfl, if_neg (by simp)]
    · rw [hnx, foldP_append]
      by_cases hn0 : n = 0
      · subst hn0; simp [foldP]
      · simp [foldP, hn0]
    · rw [flt_append]
      by_cases hn0 : n = 0
      · subst hn0; simp [flt, hw']
      · rw [if_neg hn0]; simp [flt, hw']

theorem doParts_step {msg : Bs} {x : Part} {xs : List Part} {p : Nat} {q : Pieces} : doParts msg true (x :: xs) p q = if (doPart msg true p q x).1 = 0 then doParts msg true xs (doPart msg true p q x).2.1 (doPart msg true p q x).2.2 else doPart msg true p q x := by
  rw [doParts]
  obtain ⟨e, p', q'⟩ := doPart msg true p q x
  cases e <;> rfl

theorem agree_soa {data : Bs} : Agree 6 data := by
  have hd : readD data 0 6 true = readE data (doParts data true [.named, .named, .fixed 20] 0 []) := by
    rw [readD, show partsOf 6 = some [.named, .named, .fixed 20] from rfl]
  have hr : refP data 0 6 = if (rNames data 2 0 [([], false)]).1 ≠ 0 then ((rNames data 2 0 [([], false)]).1, [])
      else if data.length - (rNames data 2 0 [([], false)]).2.1 < 20 then (4, []) else if 20 < data.length - (rNames data 2 0 [([], false)]).2.1 then (3, [])
      else (0, (rNames data 2 0 [([], false)]).2.2 ++ [(data.drop (rNames data 2 0 [([], false)]).2.1, false)]) := by
    rw [refP, if_neg (by decide), if_neg (by decide), show layoutF 6 = (0, 2, 20, true) from rfl]
    simp
  rw [rNames] at hr
  rw [doParts_step, named_whole] at hd
  by_cases he : (readAt data 0).1 ≠ 0
  · simp only [if_pos he] at hr hd
    rw [if_neg he] at hd
    refine agree_no (e := (readAt data 0).1) (l := []) (by rw [refW_of hr, if_pos (.inl he)]) (by rw [hd, readE, if_neg he]) he rfl
  simp only [if_neg he] at hr hd
  obtain ⟨hx1, hx2⟩ := readAt_next (msg := data) (q := 0) (by omega)
  have hraw := readAt_raw (msg := data) (q := 0) (by omega)
  generalize (readAt data 0).2.1 = n1 at *
  generalize (readAt data 0).2.2 = p1 at *
  rw [rNames] at hr
  have hd1 : n1 ≠ (data.take p1).drop 0 → readD data 0 6 true = (3, []) := fun hw => by
    simp only [if_pos hw] at hd
    rw [hd]; rfl
  have hd2 : n1 = (data.take p1).drop 0 → readD data 0 6 true = readE data (doParts data true [.named, .fixed 20] p1 [(n1, true)]) := fun hw => by
    simp only [hw, ne_eq, not_true_eq_false, if_false, if_true] at hd
    rw [hd, ← hw]; rfl
  rw [doParts_step, named_whole, doParts_one, doPart] at hd2
  by_cases he2 : (readAt data p1).1 ≠ 0
  · simp only [if_pos he2] at hr
    have hn : refW 6 data = none := by rw [refW_of hr, if_pos (.inl he2)]
    by_cases hw : n1 = (data.take p1).drop 0
    · have := hd2 hw
      simp only [if_pos he2] at this
      rw [if_neg he2] at this
      exact agree_no (e := (readAt data p1).1) (l := []) hn (by rw [this, readE, if_neg he2]) he2 rfl
    · exact agree_no (e := 3) (l := []) hn (hd1 hw) (by decide) rfl
  simp only [if_neg he2, rNames] at hr
  obtain ⟨hy1, hy2⟩ := readAt_next (msg := data) (q := p1) (by omega)
  have hraw2 := readAt_raw (msg := data) (q := p1) (by omega)
  simp only [ne_eq, not_true_eq_false, if_false] at hr
  have hpre : data = (data.take p1).drop 0 ++ ((data.take (readAt data p1).2.2).drop p1 ++ data.drop (readAt data p1).2.2) := by
    have h1 := take_drop_split (msg := data) (p := 0) (k := p1) (q := data.length) (by omega) hx2 (Nat.le_refl _)
    have h2 := take_drop_split (msg := data) (p := p1) (k := (readAt data p1).2.2) (q := data.length) (by omega) hy2 (Nat.le_refl _)
    rw [List.take_length] at h1 h2
    rw [h2, List.drop_zero] at h1
    exact h1
  simp only [if_neg he2] at hd2
  generalize (readAt data p1).2.1 = n2 at *
  generalize (readAt data p1).2.2 = p2 at *
  have hfl : flt ([([], false)] ++ [(n1, true)] ++ [(n2, true)] ++ [(data.drop p2, false)]) = n1 ++ (n2 ++ data.drop p2) := by simp [flt]
  -- what the document says where the bytes are not the names
  have hno : flt ([([], false)] ++ [(n1, true)] ++ [(n2, true)] ++ [(data.drop p2, false)]) ≠ data → refW 6 data = none := fun hne => by
    by_cases h20 : data.length - p2 < 20
    · rw [if_pos h20] at hr; rw [refW_of hr, if_pos (by simp)]
    · rw [if_neg h20] at hr
      by_cases h21 : 20 < data.length - p2
      · rw [if_pos h21] at hr; rw [refW_of hr, if_pos (by simp)]
      · rw [if_neg h21] at hr; rw [refW_of hr, if_pos (.inr hne)]
  by_cases hw : n1 = (data.take p1).drop 0
  · have hd3 := hd2 hw
    by_cases hw2 : n2 = (data.take p2).drop p1
    · simp only [hw2, ne_eq, not_true_eq_false, if_false, if_true] at hd3
      rw [← hw2] at hd3
      have hda : flt ([([], false)] ++ [(n1, true)] ++ [(n2, true)] ++ [(data.drop p2, false)]) = data := by rw [hfl, hw, hw2]; exact hpre.symm
      by_cases h20 : data.length - p2 < 20
      · rw [if_pos h20] at hr
        rw [if_pos (by omega)] at hd3
        exact agree_no (e := 4) (l := []) (by rw [refW_of hr, if_pos (by simp)]) (by rw [hd3]; rfl) (by decide) rfl
      · rw [if_neg h20] at hr
        rw [if_neg (by omega), readE, if_pos rfl] at hd3
        by_cases h21 : 20 < data.length - p2
        · rw [if_pos h21] at hr
          rw [if_pos (by simp only; omega)] at hd3
          exact agree_no (e := 3) (l := []) (by rw [refW_of hr, if_pos (by simp)]) hd3 (by decide) rfl
        · rw [if_neg h21] at hr
          rw [if_neg (by simp only; omega)] at hd3
          have hlast : (data.drop p2).take 20 = data.drop p2 := List.take_of_length_le (by rw [List.length_drop]; omega)
          rw [hlast] at hd3
          refine agree_yes (by rw [refW_of hr, if_neg (by rintro (e | e); exact e rfl; exact e hda)]) hd3 ?_ ?_
          · simp [foldP]
          · refine Eq.trans ?_ hda; simp [flt]
    · simp only [ne_eq, hw2, not_false_eq_true, if_true] at hd3
      refine agree_no (e := 3) (l := []) (hno ?_) (by rw [hd3]; rfl) (by decide) rfl
      rw [hfl]
      intro e
      rw [hw] at e
      have e2 := List.append_cancel_left (e.trans hpre)
      exact part2_ne (hraw2.resolve_left hw2) e2
  · refine agree_no (e := 3) (l := []) (hno ?_) (hd1 hw) (by decide) rfl
    rw [hfl]
    intro e
    exact part2_ne (hraw.resolve_left hw) (e.trans hpre)

theorem readD_name {kind n : Nat} {data : Bs} (hk : partsOf kind = some [.fixed n, .named]) (h0 : n ≠ 0) : readD data 0 kind true = if data.length < n then (4, []) else readE data (doPart data true n (if n = 0 then [] else [((data.drop 0).take n, false)]) .named) := by
  rw [readD, hk]
  show readE data (doParts data true [.fixed n, .named] 0 []) = _
  rw [doParts_step, doParts_one, doPart, Nat.zero_add, if_neg h0]
  by_cases h : data.length < n
  · simp [h, readE]
  · simp [h]

/-- **What package rdata computes of whole data is what the document says.** -/
theorem agree_all (kind : Nat) (data : Bs) : Agree kind data := by
  by_cases h41 : kind = 41
  · subst h41; exact agree_none rfl (by rw [refP, if_pos rfl])
  by_cases h16 : kind = 16
  · subst h16; exact agree_texts
  by_cases h6 : kind = 6
  · subst h6; exact agree_soa
  by_cases h1 : kind = 1
  · subst h1; exact agree_fixed (n := 4) rfl rfl (by decide) (by decide)
  by_cases h28 : kind = 28
  · subst h28; exact agree_fixed (n := 16) rfl rfl (by decide) (by decide)
  by_cases h15 : kind = 15
  · subst h15; exact agree_name (n := 2) rfl (by decide) (by decide) (readD_name rfl (by decide))
  by_cases h33 : kind = 33
  · subst h33; exact agree_name (n := 6) rfl (by decide) (by decide) (readD_name rfl (by decide))
  by_cases hn : kind = 2 ∨ kind = 5 ∨ kind = 12
  · have hk : partsOf kind = some [.named] := by rcases hn with rfl | rfl | rfl <;> rfl
    have hl : layoutF kind = (0, 1, 0, true) := by rcases hn with rfl | rfl | rfl <;> rfl
    refine agree_name (n := 0) hl h41 h16 ?_
    rw [readD, hk, if_neg (by omega), if_pos rfl]
    show readE data (doParts data true [.named] 0 []) = _
    rw [doParts_one]
  · have hk : partsOf kind = some [.rest] := by simp [partsOf, h1, h28, h15, h6, h33, h16, h41, hn]
    have hl : layoutF kind = (0, 0, 0, false) := by simp [layoutF, h1, h28, h15, h6, h33, hn]
    exact agree_rest hk (by rw [refP, if_neg h41, if_neg h16, hl]; simp)
end Go.Proofs.YtpoebplhemimmaaGreatDoor
