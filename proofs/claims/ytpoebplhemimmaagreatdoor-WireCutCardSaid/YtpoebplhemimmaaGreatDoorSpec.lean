/-
  Names as plain functions on lists of bytes: labels, folding, order. No program is in sight here.
-/
namespace Go.Proofs.YtpoebplhemimmaaGreatDoor

abbrev Bs := List UInt8

/-- Is there a first label? -/
def firstB (l : Bs) : Bool := !decide (l = []) && !decide ((l.getD 0 0).toNat = 0) && decide ((l.getD 0 0).toNat ≤ 63) && decide ((l.getD 0 0).toNat + 2 ≤ l.length)
theorem firstB_iff {l : Bs} : firstB l = true ↔ 0 < l.length ∧ (l.getD 0 0).toNat ≠ 0 ∧ (l.getD 0 0).toNat ≤ 63 ∧ (l.getD 0 0).toNat + 2 ≤ l.length := by
  simp only [firstB, Bool.and_eq_true, Bool.not_eq_eq_eq_not, Bool.not_true, decide_eq_true_eq, decide_eq_false_iff_not, ← List.length_pos_iff]
  omega
theorem firstB_no {l : Bs} (h : ¬ (0 < l.length ∧ (l.getD 0 0).toNat ≠ 0 ∧ (l.getD 0 0).toNat ≤ 63 ∧ (l.getD 0 0).toNat + 2 ≤ l.length)) : firstB l = false := by
  cases e : firstB l
  · rfl
  · exact absurd (firstB_iff.1 e) h
def firstLabel (l : Bs) : Bs := if firstB l then (l.take ((l.getD 0 0).toNat + 1)).drop 1 else []
def firstRest (l : Bs) : Bs := if firstB l then l.drop ((l.getD 0 0).toNat + 1) else []

/-- A name's labels, however long it is. -/
def splitN : Nat → Bs → Option (List Bs)
  | 0, _ => none
  | k + 1, n => if n = [0] then some [] else if firstB n then (splitN k (firstRest n)).map (firstLabel n :: ·) else none
def labelsOf (n : Bs) : Option (List Bs) := splitN (n.length + 1) n

theorem firstRest_lt {n : Bs} (h : firstB n = true) : (firstRest n).length < n.length := by
  rw [firstRest, if_pos h]
  simp only [firstB, Bool.and_eq_true, Bool.not_eq_eq_eq_not, Bool.not_true, decide_eq_true_eq, decide_eq_false_iff_not] at h
  rw [List.length_drop]; omega

theorem splitN_fuel : ∀ (k m : Nat) (n : Bs), n.length < k → n.length < m → splitN k n = splitN m n
  | 0, _, _, h, _ => by omega
  | _, 0, _, _, h => by omega
  | k + 1, m + 1, n, hk, hm => by
    unfold splitN
    split
    · rfl
    · split
      · rename_i h
        have := firstRest_lt h
        rw [splitN_fuel k m _ (by omega) (by omega)]
      · rfl

theorem labelsOf_root : labelsOf [0] = some [] := rfl
theorem labelsOf_no {n : Bs} (h : n ≠ [0]) (h1 : firstB n = false) : labelsOf n = none := by
  unfold labelsOf splitN; simp [h, h1]
theorem labelsOf_cons {n : Bs} (h : n ≠ [0]) (h1 : firstB n = true) : labelsOf n = (labelsOf (firstRest n)).map (firstLabel n :: ·) := by
  have := firstRest_lt h1
  unfold labelsOf; rw [splitN]
  simp only [h, h1, if_false, if_true]
  rw [splitN_fuel n.length ((firstRest n).length + 1) _ (by omega) (by omega)]

/-- A name's labels. -/
def split (n : Bs) : Option (List Bs) := if 255 < n.length then none else labelsOf n
def mayB (n : Bs) : Bool := (split n).isSome

def lowB (c : UInt8) : UInt8 := if 65 ≤ c.toNat ∧ c.toNat ≤ 90 then c + 32 else c
def low (l : Bs) : Bs := l.map lowB
def joinL : List Bs → Bs
  | [] => []
  | l :: ls => UInt8.ofNat l.length :: l ++ joinL ls
def fold (n : Bs) : Bs := match split n with
  | some l => joinL (l.map low) ++ [0]
  | none => []
def sameB (a b : Bs) : Bool := mayB a && mayB b && decide (fold a = fold b)

/-- Does a text stand ahead of another one? -/
def bless : Bs → Bs → Bool
  | _, [] => false
  | [], _ :: _ => true
  | a :: x, b :: y => decide (a.toNat < b.toNat) || (decide (a.toNat = b.toNat) && bless x y)

theorem bless_irr : ∀ (x : Bs), bless x x = false
  | [] => rfl
  | a :: x => by simp [bless, bless_irr x]
theorem bless_trans : ∀ {x y z : Bs}, bless x y = true → bless y z = true → bless x z = true
  | [], [], _, h, _ => by simp [bless] at h
  | _ :: _, [], _, h, _ => by simp [bless] at h
  | _, _ :: _, [], _, h => by simp [bless] at h
  | [], _ :: _, _ :: _, _, _ => rfl
  | a :: x, b :: y, c :: z, h, k => by
    simp only [bless, Bool.or_eq_true, Bool.and_eq_true, decide_eq_true_eq] at h k ⊢
    rcases h with h | ⟨h, h'⟩ <;> rcases k with k | ⟨k, k'⟩
    · left; omega
    · left; omega
    · left; omega
    · right; exact ⟨by omega, bless_trans h' k'⟩
theorem bless_tri : ∀ (x y : Bs), bless x y = true ∨ x = y ∨ bless y x = true
  | [], [] => .inr (.inl rfl)
  | [], _ :: _ => .inl rfl
  | _ :: _, [] => .inr (.inr rfl)
  | a :: x, b :: y => by
    simp only [bless, Bool.or_eq_true, Bool.and_eq_true, decide_eq_true_eq]
    rcases Nat.lt_trichotomy a.toNat b.toNat with h | h | h
    · exact .inl (.inl h)
    · have e : a = b := UInt8.toNat_inj.1 h
      subst e
      rcases bless_tri x y with k | k | k
      · exact .inl (.inr ⟨rfl, k⟩)
      · subst k; exact .inr (.inl rfl)
      · exact .inr (.inr (.inr ⟨rfl, k⟩))
    · exact .inr (.inr (.inl h))
theorem bless_asym {x y : Bs} (h : bless x y = true) : bless y x = false := by
  cases k : bless y x with
  | false => rfl
  | true => have := bless_trans h k; rw [bless_irr] at this; cases this
theorem bless_ne {x y : Bs} (h : bless x y = true) : x ≠ y := by rintro rfl; rw [bless_irr] at h; cases h
theorem bless_gt (x y : Bs) : (!bless x y && !x == y) = bless y x := by
  rcases bless_tri x y with h | h | h
  · simp [h, bless_asym h]
  · subst h; simp [bless_irr]
  · have := bless_ne h; simp [h, bless_asym h]; exact fun e => this e.symm
theorem bless_le (x y : Bs) : (bless x y || x == y) = !bless y x := by
  rcases bless_tri x y with h | h | h
  · simp [h, bless_asym h]
  · subst h; simp [bless_irr]
  · have := bless_ne h; simp [h, bless_asym h]; exact fun e => this e.symm

def icmp (j k : Int) : Int := if j < k then -1 else if k < j then 1 else 0
def bcmp (x y : Bs) : Int := if bless x y = true then -1 else if bless y x = true then 1 else 0
/-- Lists of texts, one text after the other. -/
def lcmp : List Bs → List Bs → Int
  | [], [] => 0
  | [], _ :: _ => -1
  | _ :: _, [] => 1
  | x :: xs, y :: ys => if bcmp x y = 0 then lcmp xs ys else bcmp x y
/-- The order of names. -/
def ncmp (a b : Bs) : Int := match split a, split b with
  | some x, some y => lcmp (x.map low).reverse (y.map low).reverse
  | _, _ => 0

/-- A name at a place of a message: an error's number, the name, where it ends. -/
def readG (msg : Bs) : Nat → Nat → Nat → Option Nat → Bs → Nat × Bs × Nat
  | 0, _, _, _, _ => (4, [], 0)
  | f + 1, p, ahead, nx, acc =>
    if msg.length ≤ p then (4, [], 0)
    else if (msg.getD p 0).toNat = 0 then (0, acc ++ [0], nx.getD (p + 1))
    else if 192 ≤ (msg.getD p 0).toNat then
      if msg.length ≤ p + 1 then (4, [], 0)
      else if ahead ≤ ((msg.getD p 0).toNat - 192) * 256 + (msg.getD (p + 1) 0).toNat then (8, [], 0)
      else readG msg f (((msg.getD p 0).toNat - 192) * 256 + (msg.getD (p + 1) 0).toNat) (((msg.getD p 0).toNat - 192) * 256 + (msg.getD (p + 1) 0).toNat) (some (nx.getD (p + 2))) acc
    else if 64 ≤ (msg.getD p 0).toNat then (3, [], 0)
    else if msg.length < p + 1 + (msg.getD p 0).toNat then (4, [], 0)
    else if 255 < (acc ++ (msg.take (p + 1 + (msg.getD p 0).toNat)).drop p).length + 1 then (5, [], 0)
    else readG msg f (p + 1 + (msg.getD p 0).toNat) ahead nx (acc ++ (msg.take (p + 1 + (msg.getD p 0).toNat)).drop p)
def readM (msg : Bs) (p ahead : Nat) : Nat := ahead * (msg.length + 1) + (msg.length - p)
def readAt (msg : Bs) (at' : Nat) : Nat × Bs × Nat := if msg.length < at' then (1, [], 0) else readG msg (readM msg at' at' + 1) at' at' none []
theorem readM_jump {msg : Bs} {p ahead q : Nat} (h : q < ahead) (hp : p < msg.length) : readM msg q q < readM msg p ahead := by
  unfold readM
  have h1 : (q + 1) * (msg.length + 1) ≤ ahead * (msg.length + 1) := Nat.mul_le_mul_right _ h
  rw [Nat.add_mul] at h1
  omega
theorem readM_step {msg : Bs} {p ahead q : Nat} (h : p < q) (hq : p < msg.length) : readM msg q ahead < readM msg p ahead := by
  unfold readM; omega

theorem readG_next {msg : Bs} : ∀ (f : Nat) {p ahead : Nat} {nx : Option Nat} {acc : Bs}, (∀ x, nx = some x → x ≤ msg.length) → (readG msg f p ahead nx acc).1 = 0 → (readG msg f p ahead nx acc).2.2 ≤ msg.length ∧ (nx = none → p < (readG msg f p ahead nx acc).2.2) ∧ (∀ x, nx = some x → (readG msg f p ahead nx acc).2.2 = x)
  | 0, _, _, _, _, _, h => by simp [readG] at h
  | f + 1, p, ahead, nx, acc, hn, h => by
    unfold readG at h ⊢
    split at h
    · simp at h
    · rename_i h1
      rw [if_neg h1]
      split at h
      · rename_i h2
        rw [if_pos h2]
        refine ⟨?_, ?_, ?_⟩
        · cases nx with
          | none => simp; omega
          | some x => simpa using hn x rfl
        · rintro rfl; simp
        · rintro x rfl; simp
      · rename_i h2
        rw [if_neg h2]
        split at h
        · rename_i h3
          rw [if_pos h3]
          split at h
          · simp at h
          · rename_i h4
            rw [if_neg h4]
            split at h
            · simp at h
            · rename_i h5
              rw [if_neg h5]
              have := readG_next f (nx := some (nx.getD (p + 2))) (fun x hx => by
                cases nx with
                | none => simp at hx; omega
                | some y => simp at hx; subst hx; exact hn y rfl) h
              refine ⟨this.1, ?_, ?_⟩
              · rintro rfl; rw [this.2.2 _ rfl]; simp
              · rintro x rfl; rw [this.2.2 _ rfl]; simp
        · rename_i h3
          rw [if_neg h3]
          split at h
          · simp at h
          · rename_i h4
            rw [if_neg h4]
            split at h
            · simp at h
            · rename_i h5
              rw [if_neg h5]
              split at h
              · simp at h
              · rename_i h6
                rw [if_neg h6]
                have := readG_next f hn h
                exact ⟨this.1, fun e => by have := this.2.1 e; omega, this.2.2⟩
theorem readAt_next {msg : Bs} {q : Nat} (h : (readAt msg q).1 = 0) : q < (readAt msg q).2.2 ∧ (readAt msg q).2.2 ≤ msg.length := by
  unfold readAt at h ⊢
  split at h
  · simp at h
  · rename_i h1
    rw [if_neg h1]
    have := readG_next _ (nx := none) (by simp) h
    exact ⟨this.2.1 rfl, this.1⟩

/-- Parts of data. -/
inductive Part where
  | fixed (n : Nat)
  | named
  | texts
  | rest
abbrev Pieces := List (Bs × Bool)
/-- Texts, one at least. -/
def textsG (msg : Bs) : Nat → Nat → Pieces → Nat × Nat × Pieces
  | 0, p, ps => (4, p, ps)
  | f + 1, p, ps =>
    if msg.length ≤ p then (4, p, ps)
    else if msg.length < p + 1 + (msg.getD p 0).toNat then (4, p, ps)
    else if msg.length ≤ p + 1 + (msg.getD p 0).toNat then (0, p + 1 + (msg.getD p 0).toNat, ps ++ [((msg.take (p + 1 + (msg.getD p 0).toNat)).drop p, false)])
    else textsG msg f (p + 1 + (msg.getD p 0).toNat) (ps ++ [((msg.take (p + 1 + (msg.getD p 0).toNat)).drop p, false)])
/-- One part: an error's number, the place behind it, the pieces. -/
def doPart (msg : Bs) (whole : Bool) (p : Nat) (ps : Pieces) : Part → Nat × Nat × Pieces
  | .fixed n => if msg.length < p + n then (4, p, ps) else (0, p + n, ps ++ [((msg.drop p).take n, false)])
  | .named => if (readAt msg p).1 ≠ 0 then ((readAt msg p).1, p, ps)
    else if whole = true ∧ (readAt msg p).2.1 ≠ (msg.take (readAt msg p).2.2).drop p then (3, p, ps)
    else (0, (readAt msg p).2.2, ps ++ [((readAt msg p).2.1, true)])
  | .texts => textsG msg (msg.length + 1) p ps
  | .rest => (0, msg.length, ps ++ [(msg.drop p, false)])
def doParts (msg : Bs) (whole : Bool) : List Part → Nat → Pieces → Nat × Nat × Pieces
  | [], p, ps => (0, p, ps)
  | x :: xs, p, ps => match doPart msg whole p ps x with
    | (0, p', ps') => doParts msg whole xs p' ps'
    | r => r
def partsOf (kind : Nat) : Option (List Part) :=
  if kind = 1 then some [.fixed 4] else if kind = 28 then some [.fixed 16] else if kind = 2 ∨ kind = 5 ∨ kind = 12 then some [.named]
  else if kind = 15 then some [.fixed 2, .named] else if kind = 6 then some [.named, .named, .fixed 20] else if kind = 33 then some [.fixed 6, .named]
  else if kind = 16 then some [.texts] else if kind = 41 then none else some [.rest]
/-- Nothing may be left. -/
def readE (msg : Bs) (r : Nat × Nat × Pieces) : Nat × Pieces := if r.1 = 0 then (if r.2.1 < msg.length then (3, []) else (0, r.2.2)) else (r.1, [])
/-- The pieces of data that end where a message ends. -/
def readD (msg : Bs) (at' kind : Nat) (whole : Bool) : Nat × Pieces := match partsOf kind with
  | none => (3, [])
  | some l => readE msg (doParts msg whole l at' [])
def dmayB (kind : Nat) (data : Bs) : Bool := decide ((readD data 0 kind true).1 = 0)
def dfold (kind : Nat) (data : Bs) : Bs := ((readD data 0 kind true).2.map fun p => if p.2 then fold p.1 else p.1).flatten

/-! The document's answer for data. -/
def layoutF (kind : Nat) : Nat × Nat × Nat × Bool :=
  if kind = 1 then (4, 0, 0, true) else if kind = 28 then (16, 0, 0, true) else if kind = 2 ∨ kind = 5 ∨ kind = 12 then (0, 1, 0, true)
  else if kind = 15 then (2, 1, 0, true) else if kind = 6 then (0, 2, 20, true) else if kind = 33 then (6, 1, 0, true) else (0, 0, 0, false)
def rTextsG (s : Bs) : Nat → Nat → Bool
  | 0, _ => false
  | f + 1, p => if s.length ≤ p then true else if s.length < p + 1 + (s.getD p 0).toNat then false else rTextsG s f (p + 1 + (s.getD p 0).toNat)
def rTexts (s : Bs) : Nat × Pieces := if s = [] then (4, []) else if rTextsG s (s.length + 1) 0 = true then (0, [(s, false)]) else (4, [])
def rNames (msg : Bs) : Nat → Nat → Pieces → Nat × Nat × Pieces
  | 0, p, q => (0, p, q)
  | k + 1, p, q => if (readAt msg p).1 ≠ 0 then ((readAt msg p).1, 0, []) else rNames msg k (readAt msg p).2.2 (q ++ [((readAt msg p).2.1, true)])
def refP (msg : Bs) (at' kind : Nat) : Nat × Pieces :=
  if kind = 41 then (3, [])
  else if kind = 16 then rTexts (msg.drop at')
  else if (layoutF kind).2.2.2 = false then (0, [(msg.drop at', false)])
  else if msg.length - at' < (layoutF kind).1 then (4, [])
  else if (rNames msg (layoutF kind).2.1 (at' + (layoutF kind).1) [((msg.take (at' + (layoutF kind).1)).drop at', false)]).1 ≠ 0 then ((rNames msg (layoutF kind).2.1 (at' + (layoutF kind).1) [((msg.take (at' + (layoutF kind).1)).drop at', false)]).1, [])
  else if msg.length - (rNames msg (layoutF kind).2.1 (at' + (layoutF kind).1) [((msg.take (at' + (layoutF kind).1)).drop at', false)]).2.1 < (layoutF kind).2.2.1 then (4, [])
  else if (layoutF kind).2.2.1 < msg.length - (rNames msg (layoutF kind).2.1 (at' + (layoutF kind).1) [((msg.take (at' + (layoutF kind).1)).drop at', false)]).2.1 then (3, [])
  else (0, (rNames msg (layoutF kind).2.1 (at' + (layoutF kind).1) [((msg.take (at' + (layoutF kind).1)).drop at', false)]).2.2 ++ [(msg.drop (rNames msg (layoutF kind).2.1 (at' + (layoutF kind).1) [((msg.take (at' + (layoutF kind).1)).drop at', false)]).2.1, false)])
def refW (kind : Nat) (data : Bs) : Option Pieces := if (refP data 0 kind).1 ≠ 0 ∨ ((refP data 0 kind).2.map (·.1)).flatten ≠ data then none else some (refP data 0 kind).2
def refFold (kind : Nat) (data : Bs) : Bs := ((((refW kind data).getD []).map fun p => if p.2 then fold p.1 else p.1)).flatten

/-! Records, and sets of them. -/
structure Rec where
  name : Bs
  kind : Nat
  cls : Nat
  ttl : Nat
  data : Bs
structure RSet where
  name : Bs
  kind : Nat
  cls : Nat
  ttl : Nat
  data : List Bs
def timeN (ttl : Nat) : Nat := if 2147483647 < ttl then 0 else ttl
/-- The first number that is not 0. -/
def orI : List Int → Int
  | [] => 0
  | x :: xs => if x ≠ 0 then x else orI xs
/-- Which set is ahead. -/
def scmp (a b : RSet) : Int := orI [ncmp a.name b.name, icmp a.kind b.kind, icmp a.cls b.cls]

def sameS (a b : RSet) : Bool := decide (a.name = b.name) && decide (a.kind = b.kind) && decide (a.cls = b.cls) && decide (a.ttl = b.ttl) && decide (a.data = b.data)
/-- May a record be? -/
def rmay (r : Rec) : Bool := mayB r.name && dmayB r.kind r.data
/-- The set of a record alone. -/
def setOf (r : Rec) : RSet := if rmay r then ⟨fold r.name, r.kind, r.cls, timeN r.ttl, [dfold r.kind r.data]⟩ else ⟨[], 0, 0, 0, []⟩

def isS (n : Bs) (kind cls : Nat) (s : RSet) : Bool := decide (s.kind = kind) && decide (s.cls = cls) && sameB s.name n
/-- The first set of a name, a type and a class. -/
def findS (l : List RSet) (n : Bs) (kind cls : Nat) : Option RSet := l.find? (isS n kind cls)
theorem findS_cons (n : Bs) (kind cls : Nat) (s : RSet) (l : List RSet) : findS (s :: l) n kind cls = if isS n kind cls s = true then some s else findS l n kind cls := by
  unfold findS; rw [List.find?_cons]; cases isS n kind cls s <;> rfl
def noSet : RSet := ⟨[], 0, 0, 0, []⟩
end Go.Proofs.YtpoebplhemimmaaGreatDoor
