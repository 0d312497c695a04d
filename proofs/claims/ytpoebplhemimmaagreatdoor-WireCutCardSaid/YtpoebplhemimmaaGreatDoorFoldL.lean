/-
  Names and data that are folded may be, and are folded; names that are written are read. No program is in sight here.
-/
import Derived.Test.YtpoebplhemimmaaGreatDoorLaw5
namespace Go.Proofs.YtpoebplhemimmaaGreatDoor
set_option linter.unusedVariables false

def okL (ls : List Bs) : Prop := ∀ x ∈ ls, 0 < x.length ∧ x.length ≤ 63
theorem len8 {x : Bs} (h : x.length ≤ 63) : (UInt8.ofNat x.length).toNat = x.length := by
  rw [UInt8.toNat_ofNat']; exact Nat.mod_eq_of_lt (by omega)
theorem name_cons {x r : Bs} (h0 : 0 < x.length) (h : x.length ≤ 63) (hr : r ≠ []) : firstB (UInt8.ofNat x.length :: (x ++ r)) = true ∧ firstLabel (UInt8.ofNat x.length :: (x ++ r)) = x ∧ firstRest (UInt8.ofNat x.length :: (x ++ r)) = r := by
  have e := len8 h
  have hrl := List.length_pos_iff.2 hr
  have hf : firstB (UInt8.ofNat x.length :: (x ++ r)) = true := firstB_iff.2 (by simp only [List.getD_cons_zero, e, List.length_cons, List.length_append]; omega)
  refine ⟨hf, ?_, ?_⟩
  · rw [firstLabel, if_pos hf, List.getD_cons_zero, e, List.take_succ_cons, List.drop_succ_cons, List.drop_zero, List.take_left']; rfl
  · rw [firstRest, if_pos hf, List.getD_cons_zero, e, List.drop_succ_cons, List.drop_left']; rfl
theorem labelsOf_join : ∀ (ls : List Bs), okL ls → labelsOf (joinL ls ++ [0]) = some ls
  | [], _ => rfl
  | x :: ls, h => by
    have hx := h x (List.mem_cons_self ..)
    have e : joinL (x :: ls) ++ [0] = UInt8.ofNat x.length :: (x ++ (joinL ls ++ [0])) := by simp [joinL]
    obtain ⟨h1, h2, h3⟩ := name_cons (r := joinL ls ++ [0]) hx.1 hx.2 (by simp)
    rw [e, labelsOf_cons (by intro e; simp at e) h1, h2, h3, labelsOf_join ls fun y hy => h y (List.mem_cons_of_mem _ hy)]
    rfl
theorem splitN_join : ∀ (k : Nat) {n : Bs} {l : List Bs}, splitN k n = some l → n = joinL l ++ [0] ∧ okL l
  | 0, _, _, h => by simp [splitN] at h
  | k + 1, n, l, h => by
    unfold splitN at h
    split at h
    · rename_i h0; cases h; subst h0; exact ⟨rfl, fun _ h => (List.not_mem_nil h).elim⟩
    · split at h
      · rename_i hf
        obtain ⟨m, hm, rfl⟩ := Option.map_eq_some_iff.1 h
        obtain ⟨h1, h2⟩ := splitN_join k hm
        have hf' := firstB_iff.1 hf
        have hl : (firstLabel n).length = (n.getD 0 0).toNat := by rw [firstLabel, if_pos hf, List.length_drop, List.length_take]; omega
        constructor
        · rw [joinL, hl]
          have : n = n.getD 0 0 :: n.drop 1 := by cases n with
            | nil => simp at hf'
            | cons a t => rfl
          have e8 : UInt8.ofNat (n.getD 0 0).toNat = n.getD 0 0 := by simp
          rw [e8]
          show n = n.getD 0 0 :: ((firstLabel n ++ joinL m) ++ [0])
          rw [List.append_assoc, ← h1, firstLabel, if_pos hf, firstRest, if_pos hf]
          generalize hk : (n.getD 0 0).toNat = j at *
          have e2 : (n.take (j + 1)).drop 1 ++ n.drop (j + 1) = n.drop 1 := by
            conv => rhs; rw [← List.take_append_drop (j + 1) n]
            rw [List.drop_append_of_le_length (by rw [List.length_take]; omega)]
          rw [e2]; exact this
        · intro y hy
          rcases List.mem_cons.1 hy with rfl | hy
          · omega
          · exact h2 y hy
      · cases h
theorem split_some {n : Bs} {l : List Bs} : split n = some l ↔ n = joinL l ++ [0] ∧ okL l ∧ (joinL l).length ≤ 254 := by
  constructor
  · intro h
    unfold split at h
    split at h
    · cases h
    · obtain ⟨h1, h2⟩ := splitN_join _ h
      refine ⟨h1, h2, ?_⟩
      have := congrArg List.length h1
      rw [List.length_append, List.length_singleton] at this
      omega
  · rintro ⟨rfl, h2, h3⟩
    rw [split, if_neg (by rw [List.length_append, List.length_singleton]; omega), labelsOf_join _ h2]

theorem may_iff {n : Bs} : mayB n = true ↔ ∃ l, split n = some l := Option.isSome_iff_exists
theorem may_no {n : Bs} (h : mayB n = false) : split n = none := by unfold mayB at h; exact Option.not_isSome_iff_eq_none.1 (by simp [h])
theorem lowB_lowB (c : UInt8) : lowB (lowB c) = lowB c := by
  unfold lowB
  split
  · rename_i h
    have : (c + 32).toNat = c.toNat + 32 := by rw [UInt8.toNat_add]; simp; omega
    rw [if_neg (by omega)]
  · rfl
theorem low_low (l : Bs) : low (low l) = low l := by simp [low, lowB_lowB]
theorem low_len (l : Bs) : (low l).length = l.length := by simp [low]
theorem join_low : ∀ (ls : List Bs), (joinL (ls.map low)).length = (joinL ls).length
  | [] => rfl
  | x :: ls => by simp only [List.map_cons, joinL, List.cons_append, List.length_cons, List.length_append, low_len, join_low ls]
theorem okL_map {f : Bs → Bs} (hf : ∀ x, (f x).length = x.length) {ls : List Bs} (h : okL ls) : okL (ls.map f) := by
  intro y hy
  obtain ⟨x, hx, rfl⟩ := List.mem_map.1 hy
  rw [hf]; exact h x hx
theorem fold_some {n : Bs} {l : List Bs} (h : split n = some l) : fold n = joinL (l.map low) ++ [0] := by rw [fold, h]
theorem fold_none {n : Bs} (h : split n = none) : fold n = [] := by rw [fold, h]
theorem split_fold {n : Bs} {l : List Bs} (h : split n = some l) : split (fold n) = some (l.map low) := by
  obtain ⟨h1, h2, h3⟩ := split_some.1 h
  rw [fold_some h]
  exact split_some.2 ⟨rfl, okL_map low_len h2, by rw [join_low]; exact h3⟩
theorem may_fold {n : Bs} (h : mayB n = true) : mayB (fold n) = true := by
  obtain ⟨l, hl⟩ := may_iff.1 h
  exact may_iff.2 ⟨_, split_fold hl⟩
theorem fold_fold (n : Bs) : fold (fold n) = fold n := by
  cases h : split n with
  | none => rw [fold_none h]; rfl
  | some l =>
    rw [fold_some (split_fold h), fold_some h]
    congr 2
    rw [List.map_map]
    exact List.map_congr_left fun x _ => low_low x
theorem fold_len {n : Bs} (h : mayB n = true) : (fold n).length = n.length := by
  obtain ⟨l, hl⟩ := may_iff.1 h
  obtain ⟨h1, -, -⟩ := split_some.1 hl
  rw [fold_some hl, List.length_append, join_low]
  conv => rhs; rw [h1, List.length_append]
theorem may_fold_iff (n : Bs) : mayB (fold n) = mayB n := by
  cases h : mayB n with
  | true => exact may_fold h
  | false => rw [fold_none (may_no h)]; rfl
theorem join_inj {a b : List Bs} (ha : okL a) (hb : okL b) (h : joinL a ++ [0] = joinL b ++ [(0 : UInt8)]) : a = b := by
  have h1 := labelsOf_join a ha
  rw [h, labelsOf_join b hb] at h1
  exact (Option.some.inj h1).symm
/-- A name's length is not above 255. -/
theorem may_len {n : Bs} (h : mayB n = true) : n.length ≤ 255 := by
  obtain ⟨l, hl⟩ := may_iff.1 h
  obtain ⟨h1, -, h3⟩ := split_some.1 hl
  have := congrArg List.length h1
  rw [List.length_append, List.length_singleton] at this
  omega
theorem fold_le255 (n : Bs) : (fold n).length ≤ 255 := by
  cases h : mayB n with
  | true => rw [fold_len h]; exact may_len h
  | false => rw [fold_none (may_no h)]; simp
theorem ne_fold {n : Bs} (h : mayB n = true) : fold n ≠ [] := by
  intro e
  have := may_fold h
  rw [e] at this; cases this

/-! ### Names that are written are read -/
theorem readG_name {msg post : Bs} : ∀ (ls : List Bs) (f p ahead : Nat) (acc : Bs), okL ls → ls.length < f → msg.drop p = joinL ls ++ 0 :: post → acc.length + (joinL ls).length ≤ 254 → readG msg f p ahead none acc = (0, acc ++ joinL ls ++ [0], p + (joinL ls).length + 1)
  | ls, 0, _, _, _, _, h, _, _ => by omega
  | [], f + 1, p, ahead, acc, _, _, hd, _ => by
    have hp : p < msg.length := by
      rcases Nat.lt_or_ge p msg.length with h | h
      · exact h
      · rw [List.drop_eq_nil_of_le h] at hd; simp [joinL] at hd
    have h0 : msg.getD p 0 = 0 := by
      have := List.drop_eq_getElem_cons hp
      rw [this] at hd
      have hd1 := (List.cons.inj hd).1
      simp [List.getD_eq_getElem?_getD, hp, hd1]
    unfold readG
    rw [if_neg (by omega), h0, if_pos (by rfl)]
    simp [joinL]
  | x :: ls, f + 1, p, ahead, acc, h, hf, hd, hl => by
    have hx := h x (List.mem_cons_self ..)
    have hp : p < msg.length := by
      rcases Nat.lt_or_ge p msg.length with h | h
      · exact h
      · rw [List.drop_eq_nil_of_le h] at hd; simp [joinL] at hd
    have hd' : msg.drop p = UInt8.ofNat x.length :: (x ++ (joinL ls ++ 0 :: post)) := by rw [hd]; simp [joinL]
    have h0 : (msg.getD p 0).toNat = x.length := by
      have := List.drop_eq_getElem_cons hp
      rw [this] at hd'
      have := (List.cons.inj hd').1
      simp only [List.getD_eq_getElem?_getD, List.getElem?_eq_getElem hp, Option.getD_some, this]
      exact len8 hx.2
    have hlen := congrArg List.length hd'
    rw [List.length_drop, List.length_cons, List.length_append, List.length_append, List.length_cons] at hlen
    have hch : (msg.take (p + 1 + x.length)).drop p = UInt8.ofNat x.length :: x := by
      rw [List.drop_take, show p + 1 + x.length - p = x.length + 1 by omega, hd', List.take_succ_cons, List.take_left']; rfl
    have hnext : msg.drop (p + 1 + x.length) = joinL ls ++ 0 :: post := by
      rw [show p + 1 + x.length = p + (x.length + 1) by omega, ← List.drop_drop, hd', List.drop_succ_cons, List.drop_left']; rfl
    have hj : (joinL (x :: ls)).length = x.length + 1 + (joinL ls).length := by simp [joinL]; omega
    unfold readG
    rw [if_neg (by omega), h0, if_neg (by omega), if_neg (by omega), if_neg (by omega), if_neg (by omega), hch, if_neg (by rw [List.length_append, List.length_cons]; omega),
      readG_name ls f (p + 1 + x.length) ahead _ (fun y hy => h y (List.mem_cons_of_mem _ hy)) (by simp at hf; omega) hnext (by rw [List.length_append, List.length_cons]; omega)]
    rw [hj]
    refine Prod.ext rfl (Prod.ext ?_ ?_)
    · simp [joinL]
    · simp only; omega
theorem readAt_name {msg n post : Bs} {p : Nat} (h : mayB n = true) (hp : p ≤ msg.length) (hd : msg.drop p = n ++ post) : readAt msg p = (0, n, p + n.length) := by
  obtain ⟨l, hl⟩ := may_iff.1 h
  obtain ⟨h1, h2, h3⟩ := split_some.1 hl
  have hlen := congrArg List.length hd
  rw [List.length_drop, List.length_append] at hlen
  have hn : n.length = (joinL l).length + 1 := by rw [h1]; simp
  have hll : l.length ≤ (joinL l).length := by
    clear h1 hl h3 hn
    induction l with
    | nil => simp
    | cons x l ih => simp only [joinL, List.cons_append, List.length_cons, List.length_append]; have := ih fun y hy => h2 y (List.mem_cons_of_mem _ hy); omega
  have hfu : l.length < readM msg p p + 1 := by unfold readM; omega
  rw [readAt, if_neg (by omega), readG_name (post := post) l _ p p [] h2 hfu (by rw [hd, h1]; simp) (by simpa using h3)]
  refine Prod.ext rfl (Prod.ext ?_ ?_)
  · rw [h1]; simp
  · simp only; omega
/-- What is read is a name. -/
theorem joinL_snoc : ∀ (ls : List Bs) (x : Bs), joinL (ls ++ [x]) = joinL ls ++ (UInt8.ofNat x.length :: x)
  | [], x => by simp [joinL]
  | y :: ls, x => by simp [joinL, joinL_snoc ls x]
theorem readG_may {msg : Bs} : ∀ (f : Nat) {p ahead : Nat} {nx : Option Nat} {ls : List Bs}, okL ls → (joinL ls).length ≤ 254 → (readG msg f p ahead nx (joinL ls)).1 = 0 → mayB (readG msg f p ahead nx (joinL ls)).2.1 = true
  | 0, _, _, _, _, _, _, h => by simp [readG] at h
  | f + 1, p, ahead, nx, ls, ho, hl, h => by
    unfold readG at h ⊢
    split at h
    · simp at h
    · rename_i h1
      rw [if_neg h1]
      split at h
      · rename_i h2
        rw [if_pos h2]
        exact may_iff.2 ⟨ls, split_some.2 ⟨rfl, ho, hl⟩⟩
      · rename_i h2
        rw [if_neg h2]
        split at h
        · rename_i h3
          rw [if_pos h3]
          split at h
          · simp at h
          · rename_i h4
            rw [if_neg h4]
            split at h
            · simp at h
            · rename_i h5
              rw [if_neg h5]
              exact readG_may f ho hl h
        · rename_i h3
          rw [if_neg h3]
          split at h
          · simp at h
          · rename_i h4
            rw [if_neg h4]
            split at h
            · simp at h
            · rename_i h5
              rw [if_neg h5]
              split at h
              · simp at h
              · rename_i h6
                rw [if_neg h6]
                have hk : 1 ≤ (msg.getD p 0).toNat := by omega
                generalize hj : (msg.getD p 0).toNat = j at *
                have hch : (msg.take (p + 1 + j)).drop p = UInt8.ofNat ((msg.take (p + 1 + j)).drop (p + 1)).length :: (msg.take (p + 1 + j)).drop (p + 1) := by
                  have hll : ((msg.take (p + 1 + j)).drop (p + 1)).length = j := by rw [List.length_drop, List.length_take]; omega
                  have hlt : p < (msg.take (p + 1 + j)).length := by rw [List.length_take]; omega
                  rw [hll, List.drop_eq_getElem_cons hlt, List.getElem_take]
                  have e8 : msg[p]'(by omega) = UInt8.ofNat j := by
                    have : (UInt8.ofNat (msg.getD p 0).toNat) = msg.getD p 0 := by simp
                    rw [hj] at this
                    rw [this]
                    simp [List.getD_eq_getElem?_getD, show p < msg.length by omega]
                  rw [e8]
                have hll : ((msg.take (p + 1 + j)).drop (p + 1)).length = j := by rw [List.length_drop, List.length_take]; omega
                rw [hch, ← joinL_snoc] at h h6 ⊢
                refine readG_may f ?_ (by omega) h
                intro y hy
                rcases List.mem_append.1 hy with hy | hy
                · exact ho y hy
                · rw [List.mem_singleton.1 hy, hll]; omega
theorem readAt_may {msg : Bs} {q : Nat} (h : (readAt msg q).1 = 0) : mayB (readAt msg q).2.1 = true := by
  unfold readAt at h ⊢
  split at h
  · simp at h
  · rename_i h1
    rw [if_neg h1]
    exact readG_may (ls := []) _ (fun _ h => (List.not_mem_nil h).elim) (by simp [joinL]) h

/-- Data of one name. -/
theorem readD_named {kind : Nat} (hk : partsOf kind = some [.named]) (d : Bs) : readD d 0 kind true = if mayB d = true then (0, [(d, true)]) else ((readD d 0 kind true).1, []) := by
  have e : readD d 0 kind true = readE d (doPart d true 0 [] .named) := by rw [readD, hk]; simp only; rw [doParts_one]
  cases hm : mayB d with
  | true =>
    rw [if_pos rfl, e, named_whole, readAt_name (p := 0) (post := []) hm (by omega) (by simp)]
    simp [readE]
  | false =>
    rw [if_neg (by simp), e, named_whole]
    by_cases h1 : (readAt d 0).1 ≠ 0
    · rw [if_pos h1, readE, if_neg h1]
    · rw [if_neg h1]
      have h1' : (readAt d 0).1 = 0 := by omega
      by_cases h2 : (readAt d 0).2.1 ≠ (d.take (readAt d 0).2.2).drop 0
      · rw [if_pos h2]; simp [readE]
      · rw [if_neg h2]
        have hn := readAt_next h1'
        simp only [readE, if_true]
        by_cases h3 : (readAt d 0).2.2 < d.length
        · rw [if_pos h3]
        · exfalso
          have h4 : (readAt d 0).2.1 = d := by
            rw [Classical.not_not.1 h2, List.drop_zero, List.take_of_length_le (by omega)]
          have := readAt_may h1'
          rw [h4, hm] at this; cases this
theorem dmay_named {kind : Nat} (hk : partsOf kind = some [.named]) (d : Bs) : dmayB kind d = mayB d := by
  unfold dmayB
  cases hm : mayB d with
  | true => rw [readD_named hk, hm]; rfl
  | false =>
    refine decide_eq_false fun e => ?_
    have h := (agree_all kind d).2.2 (by unfold dmayB; exact decide_eq_true e)
    have e2 := readD_named hk d
    rw [hm, if_neg (by simp)] at e2
    rw [e2] at h
    have : d = [] := h.symm
    subst this
    revert e
    have : readD ([] : Bs) 0 kind true = readE [] (doPart [] true 0 [] .named) := by rw [readD, hk]; simp only; rw [doParts_one]
    rw [this]; decide
theorem dfold_named {kind : Nat} (hk : partsOf kind = some [.named]) (d : Bs) : dfold kind d = fold d := by
  unfold dfold
  rw [readD_named hk]
  cases hm : mayB d with
  | true => simp
  | false => simp [fold_none (may_no hm)]

/-! ### Data that are folded -/
def fp (p : Bs × Bool) : Bs × Bool := if p.2 then (fold p.1, true) else p
def plainP : Part → Bool
  | .fixed _ => true
  | .named => true
  | _ => false
theorem textsG_grow {msg : Bs} : ∀ (f p : Nat) (ps : Pieces), ∃ t, (textsG msg f p ps).2.2 = ps ++ t ∧ ∀ q ∈ t, q.2 = false
  | 0, p, ps => ⟨[], by simp [textsG]⟩
  | f + 1, p, ps => by
    unfold textsG
    split
    · exact ⟨[], by simp⟩
    · split
      · exact ⟨[], by simp⟩
      · split
        · exact ⟨[_], rfl, by simp⟩
        · obtain ⟨t, h1, h2⟩ := textsG_grow f (p + 1 + (msg.getD p 0).toNat) (ps ++ [((msg.take (p + 1 + (msg.getD p 0).toNat)).drop p, false)])
          refine ⟨((msg.take (p + 1 + (msg.getD p 0).toNat)).drop p, false) :: t, by rw [h1]; simp, ?_⟩
          intro q hq
          rcases List.mem_cons.1 hq with rfl | hq
          · rfl
          · exact h2 q hq
theorem doPart_grow {msg : Bs} {whole : Bool} (x : Part) (p : Nat) (ps : Pieces) : ∃ t, (doPart msg whole p ps x).2.2 = ps ++ t := by
  cases x with
  | fixed n =>
    simp only [doPart]
    split
    · exact ⟨[], by simp⟩
    · exact ⟨_, rfl⟩
  | named =>
    simp only [doPart]
    split
    · exact ⟨[], by simp⟩
    · split
      · exact ⟨[], by simp⟩
      · exact ⟨_, rfl⟩
  | texts => obtain ⟨t, h, -⟩ := textsG_grow (msg := msg) (msg.length + 1) p ps; exact ⟨t, h⟩
  | rest => exact ⟨_, rfl⟩
theorem doParts_grow {msg : Bs} : ∀ (xs : List Part) (p : Nat) (ps : Pieces), ∃ t, (doParts msg true xs p ps).2.2 = ps ++ t
  | [], p, ps => ⟨[], by simp [doParts]⟩
  | x :: xs, p, ps => by
    rw [doParts_step]
    obtain ⟨t, h⟩ := doPart_grow (msg := msg) (whole := true) x p ps
    split
    · obtain ⟨s, h2⟩ := doParts_grow xs (doPart msg true p ps x).2.1 (doPart msg true p ps x).2.2 (msg := msg)
      exact ⟨t ++ s, by rw [h2, h, List.append_assoc]⟩
    · exact ⟨t, h⟩
theorem doParts_pos {msg : Bs} : ∀ (xs : List Part) (p : Nat) (ps : Pieces), xs.all plainP = true → p ≤ msg.length → (doParts msg true xs p ps).1 = 0 → (doParts msg true xs p ps).2.1 ≤ msg.length
  | [], p, ps, _, hp, _ => by simpa [doParts] using hp
  | x :: xs, p, ps, ha, hp, h => by
    rw [doParts_step] at h ⊢
    simp only [List.all_cons, Bool.and_eq_true] at ha
    split at h
    · rename_i h0
      rw [if_pos h0]
      refine doParts_pos xs _ _ ha.2 ?_ h
      cases x with
      | fixed n =>
        simp only [doPart] at h0 ⊢
        by_cases hc : msg.length < p + n
        · rw [if_pos hc] at h0; simp at h0
        · rw [if_neg hc]; simp only; omega
      | named =>
        rw [named_whole] at h0 ⊢
        by_cases hn : (readAt msg p).1 ≠ 0
        · rw [if_pos hn] at h0; exact absurd h0 hn
        · rw [if_neg hn] at h0 ⊢
          by_cases hw : (readAt msg p).2.1 ≠ (msg.take (readAt msg p).2.2).drop p
          · rw [if_pos hw] at h0; simp at h0
          · rw [if_neg hw]
            exact (readAt_next (by omega)).2
      | texts => simp [plainP] at ha
      | rest => simp [plainP] at ha
    · rename_i h0; exact absurd h h0
theorem foldP_len {l : Pieces} (h : ∀ p ∈ l, p.2 = true → mayB p.1 = true) : (foldP l).length = (flt l).length := by
  induction l with
  | nil => rfl
  | cons p l ih =>
    have := ih fun q hq => h q (List.mem_cons_of_mem _ hq)
    have hp := h p (List.mem_cons_self ..)
    simp only [foldP, flt, List.map_cons, List.flatten_cons, List.length_append] at this ⊢
    rw [this]
    cases h2 : p.2 with
    | true => simp [fold_len (hp h2)]
    | false => simp
theorem step_ok {msg : Bs} {x : Part} {xs : List Part} {p p' : Nat} {q q' : Pieces} (h : doPart msg true p q x = (0, p', q')) : doParts msg true (x :: xs) p q = doParts msg true xs p' q' := by
  rw [doParts_step, if_pos (by rw [h]), h]
theorem step_no {msg : Bs} {x : Part} {xs : List Part} {p p' e : Nat} {q q' : Pieces} (h : doPart msg true p q x = (e, p', q')) (he : e ≠ 0) : (doParts msg true (x :: xs) p q).1 ≠ 0 := by
  rw [doParts_step, if_neg (by rw [h]; exact he), h]; exact he
theorem doParts_fold {msg msg2 : Bs} : ∀ (xs : List Part) (p p2 : Nat) (ps ps2 qs : Pieces), xs.all plainP = true → p ≤ msg.length → p2 ≤ msg2.length → doParts msg true xs p ps = (0, msg.length, ps ++ qs) → msg2.drop p2 = foldP qs →
    doParts msg2 true xs p2 ps2 = (0, msg2.length, ps2 ++ qs.map fp)
  | [], p, p2, ps, ps2, qs, _, hp, hp2, h, hd => by
    unfold doParts at h ⊢
    simp only [Prod.mk.injEq, true_and] at h
    have : qs = [] := by simpa using h.2
    subst this
    have : msg2.length - p2 = 0 := by have := congrArg List.length hd; simpa [foldP] using this
    rw [show p2 = msg2.length by omega]; simp
  | .fixed n :: xs, p, p2, ps, ps2, qs, ha, hp, hp2, h, hd => by
    have ha' : xs.all plainP = true := by simpa [plainP] using ha
    by_cases hn : msg.length < p + n
    · exact absurd (congrArg (·.1) h) (step_no (show doPart msg true p ps (.fixed n) = (4, p, ps) by simp [doPart, hn]) (by decide))
    · rw [step_ok (show doPart msg true p ps (.fixed n) = (0, p + n, ps ++ [((msg.drop p).take n, false)]) by simp [doPart, hn])] at h
      obtain ⟨qs', hq⟩ : ∃ qs', qs = ((msg.drop p).take n, false) :: qs' := by
        have h2 := congrArg (fun r => r.2.2) h
        simp only at h2
        obtain ⟨t, ht⟩ := doParts_grow xs (p + n) (ps ++ [((msg.drop p).take n, false)]) (msg := msg)
        rw [ht, List.append_assoc] at h2
        exact ⟨t, (List.append_cancel_left h2).symm⟩
      subst hq
      have hf : foldP (((msg.drop p).take n, false) :: qs') = (msg.drop p).take n ++ foldP qs' := by simp [foldP]
      rw [hf] at hd
      have hl : ((msg.drop p).take n).length = n := by rw [List.length_take, List.length_drop]; omega
      have hlen := congrArg List.length hd
      rw [List.length_drop, List.length_append, hl] at hlen
      have h1 : (msg2.drop p2).take n = (msg.drop p).take n := by rw [hd, List.take_left' hl]
      have h2 : msg2.drop (p2 + n) = foldP qs' := by rw [← List.drop_drop, hd, List.drop_left' hl]
      have hn2 : ¬ msg2.length < p2 + n ∨ n = 0 := by omega
      have hx : doPart msg2 true p2 ps2 (.fixed n) = (0, p2 + n, ps2 ++ [((msg.drop p).take n, false)]) := by
        rw [← h1]; unfold doPart; simp only
        rw [if_neg (by omega)]
      rw [step_ok hx, doParts_fold (msg := msg) (msg2 := msg2) xs (p + n) (p2 + n) (ps ++ [((msg.drop p).take n, false)]) _ qs' ha' (by omega) (by omega) (by rw [h]; simp) h2]
      simp [fp]
  | .named :: xs, p, p2, ps, ps2, qs, ha, hp, hp2, h, hd => by
    have ha' : xs.all plainP = true := by simpa [plainP] using ha
    by_cases hn : (readAt msg p).1 ≠ 0
    · exact absurd (congrArg (·.1) h) (step_no (show doPart msg true p ps .named = ((readAt msg p).1, p, ps) by rw [named_whole, if_pos hn]) hn)
    · have hn' : (readAt msg p).1 = 0 := by omega
      by_cases hw : (readAt msg p).2.1 ≠ (msg.take (readAt msg p).2.2).drop p
      · exact absurd (congrArg (·.1) h) (step_no (show doPart msg true p ps .named = (3, p, ps) by rw [named_whole, if_neg hn, if_pos hw]) (by decide))
      · rw [step_ok (show doPart msg true p ps .named = (0, (readAt msg p).2.2, ps ++ [((readAt msg p).2.1, true)]) by rw [named_whole, if_neg hn, if_neg hw])] at h
        have hmay := readAt_may hn'
        have hnx := readAt_next hn'
        generalize (readAt msg p).2.1 = nm at *
        generalize (readAt msg p).2.2 = q at *
        obtain ⟨qs', hqs⟩ : ∃ qs', qs = (nm, true) :: qs' := by
          have h2 := congrArg (fun r => r.2.2) h
          simp only at h2
          obtain ⟨t, ht⟩ := doParts_grow xs q (ps ++ [(nm, true)]) (msg := msg)
          rw [ht, List.append_assoc] at h2
          exact ⟨t, (List.append_cancel_left h2).symm⟩
        subst hqs
        have hf : foldP ((nm, true) :: qs') = fold nm ++ foldP qs' := by simp [foldP]
        rw [hf] at hd
        have hl := fold_len hmay
        have hlen := congrArg List.length hd
        rw [List.length_drop, List.length_append] at hlen
        have hr := readAt_name (may_fold hmay) hp2 hd
        have h2 : msg2.drop (p2 + (fold nm).length) = foldP qs' := by rw [← List.drop_drop, hd, List.drop_left' rfl]
        have h3 : (msg2.take (p2 + (fold nm).length)).drop p2 = fold nm := by
          rw [List.drop_take, Nat.add_sub_cancel_left, hd, List.take_left' rfl]
        have hx : doPart msg2 true p2 ps2 .named = (0, p2 + (fold nm).length, ps2 ++ [(fold nm, true)]) := by
          rw [named_whole, hr, if_neg (by simp), if_neg (by simp [h3])]
        rw [step_ok hx, doParts_fold (msg := msg) (msg2 := msg2) xs q (p2 + (fold nm).length) (ps ++ [(nm, true)]) _ qs' ha' (by omega) (by omega) (by rw [h]; simp) h2]
        simp [fp]
  | .texts :: _, _, _, _, _, _, ha, _, _, _, _ => by simp [plainP] at ha
  | .rest :: _, _, _, _, _, _, ha, _, _, _, _ => by simp [plainP] at ha
theorem partsOf_cases (k : Nat) : (∃ l, partsOf k = some l ∧ l.all plainP = true) ∨ partsOf k = some [.texts] ∨ partsOf k = some [.rest] ∨ partsOf k = none := by
  unfold partsOf
  split
  · exact .inl ⟨_, rfl, rfl⟩
  · split
    · exact .inl ⟨_, rfl, rfl⟩
    · split
      · exact .inl ⟨_, rfl, rfl⟩
      · split
        · exact .inl ⟨_, rfl, rfl⟩
        · split
          · exact .inl ⟨_, rfl, rfl⟩
          · split
            · exact .inl ⟨_, rfl, rfl⟩
            · split
              · exact .inr (.inl rfl)
              · split
                · exact .inr (.inr (.inr rfl))
                · exact .inr (.inr (.inl rfl))
theorem dfold_eq (k : Nat) (d : Bs) : dfold k d = foldP (readD d 0 k true).2 := rfl
theorem foldP_flt {l : Pieces} (h : ∀ q ∈ l, q.2 = false) : foldP l = flt l := by
  induction l with
  | nil => rfl
  | cons p l ih =>
    have := ih fun q hq => h q (List.mem_cons_of_mem _ hq)
    simp only [foldP, flt, List.map_cons, List.flatten_cons] at this ⊢
    rw [this, h p (List.mem_cons_self ..)]; simp
theorem foldP_fp (l : Pieces) : foldP (l.map fp) = foldP l := by
  induction l with
  | nil => rfl
  | cons p l ih =>
    simp only [foldP, List.map_cons, List.flatten_cons] at ih ⊢
    rw [ih]
    congr 1
    unfold fp
    cases h : p.2 <;> simp [h, fold_fold]
theorem dfold_fix {k : Nat} {d : Bs} (h : dmayB k d = true) : dmayB k (dfold k d) = true ∧ dfold k (dfold k d) = dfold k d := by
  have h0 : (readD d 0 k true).1 = 0 := of_decide_eq_true h
  have hflat := (agree_all k d).2.2 h
  rcases partsOf_cases k with ⟨l, hl, ha⟩ | hl | hl | hl
  · have e : readD d 0 k true = readE d (doParts d true l 0 []) := by rw [readD, hl]
    have e2 : ∀ x, readD x 0 k true = readE x (doParts x true l 0 []) := fun x => by rw [readD, hl]
    rw [e] at h0
    have hz : (doParts d true l 0 []).1 = 0 := by
      unfold readE at h0
      split at h0
      · assumption
      · exact h0
    have hp := doParts_pos l 0 [] ha (Nat.zero_le _) hz
    have hpl : (doParts d true l 0 []).2.1 = d.length := by
      unfold readE at h0
      rw [if_pos hz] at h0
      split at h0
      · simp at h0
      · omega
    have hq : readD d 0 k true = (0, (doParts d true l 0 []).2.2) := by
      rw [e, readE, if_pos hz, if_neg (by omega)]
    have hd : doParts d true l 0 [] = (0, d.length, [] ++ (doParts d true l 0 []).2.2) := Prod.ext hz (Prod.ext hpl (by simp))
    have hr := doParts_fold (msg2 := dfold k d) l 0 0 [] [] _ ha (Nat.zero_le _) (Nat.zero_le _) hd (by rw [dfold_eq, hq]; rfl)
    have hq2 : readD (dfold k d) 0 k true = (0, (doParts d true l 0 []).2.2.map fp) := by
      rw [e2, hr]; simp [readE]
    refine ⟨by unfold dmayB; rw [hq2]; rfl, ?_⟩
    rw [dfold_eq k (dfold k d), hq2, foldP_fp, dfold_eq, hq]
  · have : dfold k d = d := by
      have hf : ∀ q ∈ (readD d 0 k true).2, q.2 = false := by
        rw [readD, hl]; simp only; rw [doParts_one]
        unfold readE
        split
        · split
          · simp
          · obtain ⟨t, h1, h2⟩ := textsG_grow (msg := d) (d.length + 1) 0 []
            intro q hq
            have : q ∈ t := by simpa [doPart, h1] using hq
            exact h2 q this
        · simp
      rw [dfold_eq, foldP_flt hf, hflat]
    rw [this]; exact ⟨h, this⟩
  · have : dfold k d = d := by
      rw [dfold_eq, readD, hl]; simp only; rw [doParts_one]; simp [doPart, readE, foldP]
    rw [this]; exact ⟨h, this⟩
  · rw [readD, hl] at h0; simp at h0

/-! ### Great letters -/
def upB (c : UInt8) : UInt8 := if 97 ≤ c.toNat ∧ c.toNat ≤ 122 then c - 32 else c
def upper (l : Bs) : Bs := l.map upB
theorem upper_len (l : Bs) : (upper l).length = l.length := by simp [upper]
theorem lowB_upB (c : UInt8) : lowB (upB c) = lowB c := by
  unfold upB
  split
  · rename_i h
    have e : (c - 32).toNat = c.toNat - 32 := by rw [UInt8.toNat_sub_of_le]; · rfl
                                                 · exact UInt8.le_iff_toNat_le.2 (by simp; omega)
    unfold lowB
    rw [if_pos (by omega), if_neg (by omega)]
    simp
  · rfl
theorem low_upper (l : Bs) : low (upper l) = low l := by simp [low, upper, lowB_upB]
theorem upper_join : ∀ (ls : List Bs), okL ls → upper (joinL ls) = joinL (ls.map upper)
  | [], _ => rfl
  | x :: ls, h => by
    have hx := h x (List.mem_cons_self ..)
    have e := len8 hx.2
    have : upB (UInt8.ofNat x.length) = UInt8.ofNat x.length := by unfold upB; rw [if_neg (by omega)]
    have ih := upper_join ls fun y hy => h y (List.mem_cons_of_mem _ hy)
    simp only [joinL, List.map_cons, upper_len, ← ih]
    simp [upper, this]
theorem split_upper {n : Bs} {l : List Bs} (h : split n = some l) : split (upper n) = some (l.map upper) := by
  obtain ⟨h1, h2, h3⟩ := split_some.1 h
  have e : upper n = joinL (l.map upper) ++ [0] := by
    rw [← upper_join l h2, h1]; simp [upper]; rfl
  refine split_some.2 ⟨e, okL_map upper_len h2, ?_⟩
  have := congrArg List.length e
  rw [upper_len, h1, List.length_append, List.length_append] at this
  simp at this; omega
theorem may_upper {n : Bs} (h : mayB n = true) : mayB (upper n) = true ∧ fold (upper n) = fold n := by
  obtain ⟨l, hl⟩ := may_iff.1 h
  refine ⟨may_iff.2 ⟨_, split_upper hl⟩, ?_⟩
  rw [fold_some (split_upper hl), fold_some hl, List.map_map]
  congr 2
  exact List.map_congr_left fun x _ => low_upper x
end Go.Proofs.YtpoebplhemimmaaGreatDoor
