/-
  Messages as bytes: plain functions. No program is in sight here.
  Messages as bytes, the plain laws: names that are written are read back. No program is in sight here.
-/
import Derived.Test.YtpoebplhemimmaaGreatDoorSf
import Derived.Test.YtpoebplhemimmaaGreatDoorFoldL
namespace Go.Proofs.YtpoebplhemimmaaGreatDoor
set_option linter.unusedVariables false

def be2 (n : Nat) : Bs := [UInt8.ofNat (n / 256), UInt8.ofNat n]
def be4 (n : Nat) : Bs := [UInt8.ofNat (n / 16777216), UInt8.ofNat (n / 65536), UInt8.ofNat (n / 256), UInt8.ofNat n]
def num2 (s : Bs) (p : Nat) : Nat := (s.getD p 0).toNat * 256 + (s.getD (p + 1) 0).toNat
def num4 (s : Bs) (p : Nat) : Nat := num2 s p * 65536 + num2 s (p + 2)
theorem be2_len (n : Nat) : (be2 n).length = 2 := rfl
theorem be4_len (n : Nat) : (be4 n).length = 4 := rfl

/-! ### Headers -/
def bitN (b : Bool) (k : Nat) : Nat := if b = true then k else 0
def flagsN (h : Hd) : Nat := h.op * 2048 + h.code + (bitN h.qr 32768 + bitN h.aa 1024 + bitN h.tc 512 + bitN h.rd 256 + bitN h.ra 128 + bitN h.z 64 + bitN h.ad 32 + bitN h.cd 16)
def bitAt (f k : Nat) : Bool := decide (f / k % 2 = 1)
def fromN (id f : Nat) : Hd := ⟨id, bitAt f 32768, f / 2048 % 16, bitAt f 1024, bitAt f 512, bitAt f 256, bitAt f 128, bitAt f 64, bitAt f 32, bitAt f 16, f % 16⟩
def headW (h : Hd) (a b c d : Nat) : Bs := be2 h.id ++ (be2 (flagsN h) ++ (be2 a ++ (be2 b ++ (be2 c ++ be2 d))))
theorem headW_len (h : Hd) (a b c d : Nat) : (headW h a b c d).length = 12 := rfl

/-! ### Names, with a table -/
/-- Endings, with their places. -/
abbrev Tab := List (Bs × Nat)
def tabAt (t : Tab) (n : Bs) : Option Nat := (t.find? fun p => decide (p.1 = n)).map (·.2)
def keepT (kn : Bool) (t : Tab) (n : Bs) (pos : Nat) : Tab := if kn = true ∧ pos ≤ 16383 then t ++ [(n, pos)] else t
/-- What stands at a place for labels, and the table behind it. -/
def putL (cmp kn : Bool) : List Bs → Nat → Tab → Bs × Tab
  | [], _, t => ([0], t)
  | x :: l, pos, t => match tabAt t (joinL (x :: l) ++ [0]) with
    | some a => if cmp = true then (be2 (49152 + a), t) else (UInt8.ofNat x.length :: (x ++ (putL cmp kn l (pos + 1 + x.length) t).1), (putL cmp kn l (pos + 1 + x.length) t).2)
    | none => (UInt8.ofNat x.length :: (x ++ (putL cmp kn l (pos + 1 + x.length) (keepT kn t (joinL (x :: l) ++ [0]) pos)).1), (putL cmp kn l (pos + 1 + x.length) (keepT kn t (joinL (x :: l) ++ [0]) pos)).2)
def nmW (cmp kn : Bool) (n : Bs) (pos : Nat) (t : Tab) : Bs × Tab := putL cmp kn ((split n).getD []) pos t

/-! ### Data -/
def compB (kind : Nat) : Bool := decide (kind = 2) || decide (kind = 5) || decide (kind = 6) || decide (kind = 12) || decide (kind = 15)
def dataW (c : Bool) : Pieces → Nat → Tab → Bs × Tab
  | [], _, t => ([], t)
  | (s, true) :: ps, pos, t => ((nmW c c s pos t).1 ++ (dataW c ps (pos + (nmW c c s pos t).1.length) (nmW c c s pos t).2).1, (dataW c ps (pos + (nmW c c s pos t).1.length) (nmW c c s pos t).2).2)
  | (s, false) :: ps, pos, t => (s ++ (dataW c ps (pos + s.length) t).1, (dataW c ps (pos + s.length) t).2)
def pcs (kind : Nat) (data : Bs) : Pieces := (readD data 0 kind true).2

/-! ### Sections -/
def queW (q : Que) (pos : Nat) (t : Tab) : Bs × Tab := ((nmW true true q.name pos t).1 ++ (be2 q.kind ++ be2 q.cls), (nmW true true q.name pos t).2)
def quesW : List Que → Nat → Tab → Option (Bs × Tab)
  | [], _, t => some ([], t)
  | q :: l, pos, t => if 65535 < pos + (queW q pos t).1.length then none else match quesW l (pos + (queW q pos t).1.length) (queW q pos t).2 with
    | none => none
    | some r => some ((queW q pos t).1 ++ r.1, r.2)
def recD (r : Rec) (pos : Nat) (t : Tab) : Bs × Tab := dataW (compB r.kind) (pcs r.kind r.data) (pos + (nmW true true r.name pos t).1.length + 10) (nmW true true r.name pos t).2
def recW (r : Rec) (pos : Nat) (t : Tab) : Bs × Tab := ((nmW true true r.name pos t).1 ++ (be2 r.kind ++ (be2 r.cls ++ (be4 r.ttl ++ (be2 (recD r pos t).1.length ++ (recD r pos t).1)))), (recD r pos t).2)
def recsW : List Rec → Nat → Tab → Option (Bs × Tab)
  | [], _, t => some ([], t)
  | r :: l, pos, t => if 65535 < pos + (recW r pos t).1.length then none else match recsW l (pos + (recW r pos t).1.length) (recW r pos t).2 with
    | none => none
    | some x => some ((recW r pos t).1 ++ x.1, x.2)
def optsW : List Opt → Bs → Option Bs
  | [], b => some b
  | o :: l, b => if 65535 < o.data.length then none else if 65535 < (b ++ (be2 o.code ++ (be2 o.data.length ++ o.data))).length then none else optsW l (b ++ (be2 o.code ++ (be2 o.data.length ++ o.data)))
def ttlN (e : Ed) : Nat := e.ext * 16777216 + e.ver * 65536 + e.flags
def optW (e : Ed) (d : Bs) : Bs := 0 :: (be2 41 ++ (be2 e.size ++ (be4 (ttlN e) ++ (be2 d.length ++ d))))

/-! ### Messages -/
def bareE (e : Ed) : Bool := decide (e.size = 0) && decide (e.ext = 0) && decide (e.ver = 0) && decide (e.flags = 0) && decide (e.opts.length = 0)
def recsMay (l : List Rec) : Bool := decide (l.length ≤ 65535) && l.all fun r => mayB r.name && dmayB r.kind r.data
def mayM (m : Msg) : Bool := decide (m.hd.op ≤ 15) && decide (m.hd.code ≤ 15) && (m.has || bareE m.ed) && decide (m.qs.length ≤ 65535) && (m.qs.all fun q => mayB q.name) && recsMay m.ans && recsMay m.auth && recsMay m.extra && (!m.has || decide (m.extra.length < 65535))
def bodyW (m : Msg) : Option (Bs × Tab) := match quesW m.qs 12 [] with
  | none => none
  | some a => match recsW m.ans (12 + a.1.length) a.2 with
    | none => none
    | some b => match recsW m.auth (12 + a.1.length + b.1.length) b.2 with
      | none => none
      | some c => match recsW m.extra (12 + a.1.length + b.1.length + c.1.length) c.2 with
        | none => none
        | some d => some (a.1 ++ (b.1 ++ (c.1 ++ d.1)), d.2)
def lastW (m : Msg) : Option Bs := if m.has = true then (optsW m.ed.opts []).map (optW m.ed) else some []
def encB (m : Msg) : Option Bs := match bodyW m with
  | none => none
  | some b => match lastW m with
    | none => none
    | some o => if 65535 < 12 + b.1.length + o.length then none else some (headW m.hd m.qs.length m.ans.length m.auth.length (m.extra.length + if m.has = true then 1 else 0) ++ (b.1 ++ o))
def encN (m : Msg) : Nat × Bs := if mayM m = true then (match encB m with
  | none => (5, [])
  | some b => (0, b)) else (3, [])

/-! ### Reading -/
def decQ (s : Bs) : Nat → Nat → List Que → Nat × Nat × List Que
  | 0, p, l => (0, p, l)
  | k + 1, p, l => if (readAt s p).1 ≠ 0 then ((readAt s p).1, p, []) else if s.length < (readAt s p).2.2 + 4 then (4, p, [])
    else decQ s k ((readAt s p).2.2 + 4) (l ++ [⟨(readAt s p).2.1, num2 s (readAt s p).2.2, num2 s ((readAt s p).2.2 + 2)⟩])
/-- Options of data, from a place on. -/
def optsR (d : Bs) : Nat → Nat → List Opt → Nat × List Opt
  | 0, _, l => (0, l)
  | f + 1, p, l => if d.length ≤ p then (0, l) else if d.length < p + 4 then (4, []) else if d.length < p + 4 + num2 d (p + 2) then (4, [])
    else optsR d f (p + 4 + num2 d (p + 2)) (l ++ [⟨num2 d p, (d.drop (p + 4)).take (num2 d (p + 2))⟩])
def ednsR (cls ttl : Nat) (d : Bs) : Nat × Ed := if (optsR d (d.length + 1) 0 []).1 ≠ 0 then ((optsR d (d.length + 1) 0 []).1, ⟨0, 0, 0, 0, []⟩)
  else (0, ⟨cls, ttl / 16777216, ttl / 65536 % 256, ttl % 65536, (optsR d (d.length + 1) 0 []).2⟩)
structure RSt where
  p : Nat
  l : List Rec
  has : Bool
  ed : Ed
/-- One record of a section. -/
def decR (s : Bs) (sec : Nat) (x : RSt) : Nat × RSt :=
  if (readAt s x.p).1 ≠ 0 then ((readAt s x.p).1, x)
  else if s.length < (readAt s x.p).2.2 + 10 then (4, x)
  else if s.length < (readAt s x.p).2.2 + 10 + num2 s ((readAt s x.p).2.2 + 8) then (4, x)
  else if num2 s (readAt s x.p).2.2 = 41 then
    (if sec ≠ 3 ∨ x.has = true ∨ (readAt s x.p).2.1 ≠ [0] then (3, x)
     else if (ednsR (num2 s ((readAt s x.p).2.2 + 2)) (num4 s ((readAt s x.p).2.2 + 4)) ((s.drop ((readAt s x.p).2.2 + 10)).take (num2 s ((readAt s x.p).2.2 + 8)))).1 ≠ 0
       then ((ednsR (num2 s ((readAt s x.p).2.2 + 2)) (num4 s ((readAt s x.p).2.2 + 4)) ((s.drop ((readAt s x.p).2.2 + 10)).take (num2 s ((readAt s x.p).2.2 + 8)))).1, x)
     else (0, ⟨(readAt s x.p).2.2 + 10 + num2 s ((readAt s x.p).2.2 + 8), x.l, true, (ednsR (num2 s ((readAt s x.p).2.2 + 2)) (num4 s ((readAt s x.p).2.2 + 4)) ((s.drop ((readAt s x.p).2.2 + 10)).take (num2 s ((readAt s x.p).2.2 + 8)))).2⟩))
  else if (readD (s.take ((readAt s x.p).2.2 + 10 + num2 s ((readAt s x.p).2.2 + 8))) ((readAt s x.p).2.2 + 10) (num2 s (readAt s x.p).2.2) false).1 ≠ 0
    then ((readD (s.take ((readAt s x.p).2.2 + 10 + num2 s ((readAt s x.p).2.2 + 8))) ((readAt s x.p).2.2 + 10) (num2 s (readAt s x.p).2.2) false).1, x)
  else (0, ⟨(readAt s x.p).2.2 + 10 + num2 s ((readAt s x.p).2.2 + 8), x.l ++ [⟨(readAt s x.p).2.1, num2 s (readAt s x.p).2.2, num2 s ((readAt s x.p).2.2 + 2), num4 s ((readAt s x.p).2.2 + 4),
    ((readD (s.take ((readAt s x.p).2.2 + 10 + num2 s ((readAt s x.p).2.2 + 8))) ((readAt s x.p).2.2 + 10) (num2 s (readAt s x.p).2.2) false).2.map (·.1)).flatten⟩], x.has, x.ed⟩)
def decS (s : Bs) (sec : Nat) : Nat → RSt → Nat × RSt
  | 0, x => (0, x)
  | k + 1, x => match decR s sec x with
    | (0, y) => decS s sec k y
    | r => r
def noEd : Ed := ⟨0, 0, 0, 0, []⟩
def noMsg : Msg := ⟨⟨0, false, 0, false, false, false, false, false, false, false, 0⟩, [], [], [], [], false, noEd⟩
/-- What bytes say, but for the last look. -/
def decB (s : Bs) : Nat × Msg :=
  if 65535 < s.length then (5, noMsg) else if s.length < 12 then (4, noMsg)
  else match decQ s (num2 s 4) 12 [] with
  | (0, p, qs) => (match decS s 1 (num2 s 6) ⟨p, [], false, noEd⟩ with
    | (0, a) => (match decS s 2 (num2 s 8) ⟨a.p, [], a.has, a.ed⟩ with
      | (0, b) => (match decS s 3 (num2 s 10) ⟨b.p, [], b.has, b.ed⟩ with
        | (0, c) => if c.p < s.length then (5, noMsg) else (0, ⟨fromN (num2 s 0) (num2 s 2), qs, a.l, b.l, c.l, c.has, c.ed⟩)
        | (e, _) => (e, noMsg))
      | (e, _) => (e, noMsg))
    | (e, _) => (e, noMsg))
  | (e, _, _) => (e, noMsg)
def decN (s : Bs) : Nat × Msg := if (decB s).1 ≠ 0 then ((decB s).1, noMsg) else if (encN (decB s).2).1 ≠ 0 then ((encN (decB s).2).1, noMsg) else (0, (decB s).2)
end Go.Proofs.YtpoebplhemimmaaGreatDoor
namespace Go.Proofs.YtpoebplhemimmaaGreatDoor
set_option linter.unusedVariables false

/-- At a place a name is read, with pointers to places ahead of one alone. -/
inductive Reads (s : Bs) : Nat → Nat → Bs → Nat → Prop
  | root {p a : Nat} : s[p]? = some 0 → Reads s p a [0] (p + 1)
  | label {p a nx : Nat} {x n : Bs} : 0 < x.length → x.length ≤ 63 → s[p]? = some (UInt8.ofNat x.length) → (s.drop (p + 1)).take x.length = x → Reads s (p + 1 + x.length) a n nx →
      Reads s p a (UInt8.ofNat x.length :: (x ++ n)) nx
  | jump {p a q nx : Nat} {n : Bs} : q < a → q ≤ 16383 → s[p]? = some (UInt8.ofNat (192 + q / 256)) → s[p + 1]? = some (UInt8.ofNat q) → Reads s q q n nx → Reads s p a n (p + 2)
theorem some_lt {s : Bs} {p : Nat} {c : UInt8} (h : s[p]? = some c) : p < s.length := (List.getElem?_eq_some_iff.1 h).1
theorem some_getD {s : Bs} {p : Nat} {c : UInt8} (h : s[p]? = some c) : s.getD p 0 = c := by rw [List.getD_eq_getElem?_getD, h]; rfl
theorem Reads.pos {s : Bs} {p a nx : Nat} {n : Bs} (h : Reads s p a n nx) : 0 < n.length := by
  induction h with
  | root h => exact Nat.one_pos
  | label h1 h2 h3 h4 h5 ih => simp
  | jump h1 h2 h3 h4 h5 ih => exact ih
theorem Reads.lt {s : Bs} {p a nx : Nat} {n : Bs} (h : Reads s p a n nx) : p < nx ∧ nx ≤ s.length := by
  induction h with
  | root h => have := some_lt h; omega
  | label h1 h2 h3 h4 h5 ih => omega
  | jump h1 h2 h3 h4 h5 ih => have := some_lt h4; omega
theorem Reads.ahead {s : Bs} {p a b nx : Nat} {n : Bs} (h : Reads s p a n nx) (ha : a ≤ b) : Reads s p b n nx := by
  induction h with
  | root h => exact .root h
  | label h1 h2 h3 h4 h5 ih => exact .label h1 h2 h3 h4 (ih ha)
  | jump h1 h2 h3 h4 h5 ih => exact .jump (Nat.lt_of_lt_of_le h1 ha) h2 h3 h4 h5
theorem get_append {s z : Bs} {p : Nat} {c : UInt8} (h : s[p]? = some c) : (s ++ z)[p]? = some c := by rw [List.getElem?_append_left (some_lt h)]; exact h
theorem Reads.mono {s : Bs} {p a nx : Nat} {n : Bs} (h : Reads s p a n nx) (z : Bs) : Reads (s ++ z) p a n nx := by
  induction h with
  | root h => exact .root (get_append h)
  | label h1 h2 h3 h4 h5 ih =>
    have hl := congrArg List.length h4
    rw [List.length_take, List.length_drop] at hl
    refine .label h1 h2 (get_append h3) ?_ ih
    rw [List.drop_append_of_le_length (by omega), List.take_append_of_le_length (by rw [List.length_drop]; omega)]
    exact h4
  | jump h1 h2 h3 h4 h5 ih => exact .jump h1 h2 (get_append h3) (get_append h4) ih
theorem u8_nat {n : Nat} (h : n < 256) : (UInt8.ofNat n).toNat = n := by rw [UInt8.toNat_ofNat']; exact Nat.mod_eq_of_lt h
theorem reads_readG {s : Bs} {p a nx : Nat} {n : Bs} (h : Reads s p a n nx) : ∀ (f : Nat) (o : Option Nat) (acc : Bs), readM s p a < f → (acc ++ n).length ≤ 255 → readG s f p a o acc = (0, acc ++ n, o.getD nx) := by
  induction h with
  | @root p a h =>
    intro f o acc hf hl
    obtain ⟨f, rfl⟩ : ∃ g, f = g + 1 := ⟨f - 1, by omega⟩
    have hp := some_lt h
    unfold readG
    rw [if_neg (by omega), some_getD h, if_pos (by decide)]
  | @label p a nx x n h1 h2 h3 h4 h5 ih =>
    intro f o acc hf hl
    obtain ⟨f, rfl⟩ : ∃ g, f = g + 1 := ⟨f - 1, by omega⟩
    have hp := some_lt h3
    have hn := h5.pos
    have hx := congrArg List.length h4
    rw [List.length_take, List.length_drop] at hx
    have hc : (s.getD p 0).toNat = x.length := by rw [some_getD h3]; exact len8 h2
    have hs : (s.take (p + 1 + x.length)).drop p = UInt8.ofNat x.length :: x := by
      rw [List.drop_take, show p + 1 + x.length - p = x.length + 1 by omega]
      have : s.drop p = UInt8.ofNat x.length :: s.drop (p + 1) := by
        rw [List.drop_eq_getElem_cons hp]
        congr 1
        rw [List.getElem?_eq_getElem hp] at h3
        exact Option.some.inj h3
      rw [this, List.take_succ_cons, h4]
    rw [List.length_append, List.length_cons, List.length_append] at hl
    unfold readG
    rw [if_neg (by omega), hc, if_neg (by omega), if_neg (by omega), if_neg (by omega), if_neg (by omega), hs, if_neg (by rw [List.length_append, List.length_cons]; omega),
      ih f o (acc ++ UInt8.ofNat x.length :: x) (by unfold readM at hf ⊢; omega) (by simp; omega)]
    simp
  | @jump p a q nx n h1 h2 h3 h4 h5 ih =>
    intro f o acc hf hl
    obtain ⟨f, rfl⟩ : ∃ g, f = g + 1 := ⟨f - 1, by omega⟩
    have hp := some_lt h3
    have hp1 := some_lt h4
    have hc : (s.getD p 0).toNat = 192 + q / 256 := by rw [some_getD h3]; exact u8_nat (by omega)
    have hc2 : (s.getD (p + 1) 0).toNat = q % 256 := by rw [some_getD h4, UInt8.toNat_ofNat']
    have hq : (192 + q / 256 - 192) * 256 + q % 256 = q := by omega
    unfold readG
    rw [if_neg (by omega), hc, if_neg (by omega), if_pos (by omega), if_neg (by omega), hc2, hq, if_neg (by omega)]
    have := readM_jump (msg := s) h1 hp
    rw [ih f (some (o.getD (p + 2))) acc (by omega) hl]; rfl
theorem reads_readAt {s : Bs} {p nx : Nat} {n : Bs} (h : Reads s p p n nx) (hn : n.length ≤ 255) : readAt s p = (0, n, nx) := by
  have := h.lt
  unfold readAt
  rw [if_neg (by omega), reads_readG h _ none [] (by omega) (by simpa using hn)]
  simp

/-! ### Names that are written -/
def nameL (l : List Bs) : Bs := joinL l ++ [0]
theorem nameL_cons (x : Bs) (l : List Bs) : nameL (x :: l) = UInt8.ofNat x.length :: (x ++ nameL l) := by simp [nameL, joinL]
theorem nameL_inj {l m : List Bs} (hl : okL l) (hm : okL m) (h : nameL l = nameL m) : l = m := join_inj hl hm h
/-- The table's places of a name's endings may be pointed to. -/
def Suf (s : Bs) (t : Tab) (l : List Bs) (a : Nat) : Prop := ∀ m, m <:+ l → m ≠ [] → ∀ q, tabAt t (nameL m) = some q → q < a ∧ q ≤ 16383 ∧ ∃ nx, Reads s q q (nameL m) nx
theorem tabAt_keep_ne {kn : Bool} {t : Tab} {n m : Bs} {pos : Nat} (h : n ≠ m) : tabAt (keepT kn t m pos) n = tabAt t n := by
  unfold keepT
  split
  · unfold tabAt
    rw [List.find?_append]
    have : ([(m, pos)] : Tab).find? (fun p => decide (p.1 = n)) = none := by simp; exact fun e => h e.symm
    rw [this, Option.or_none]
  · rfl
theorem tabAt_keep_self {kn : Bool} {t : Tab} {n : Bs} {pos q : Nat} (h : tabAt t n = none) (hq : tabAt (keepT kn t n pos) n = some q) : q = pos ∧ pos ≤ 16383 := by
  unfold keepT at hq
  split at hq
  · rename_i hc
    have hn : t.find? (fun p => decide (p.1 = n)) = none := by unfold tabAt at h; simpa using h
    unfold tabAt at hq
    rw [List.find?_append, hn] at hq
    simp at hq
    exact ⟨hq.symm, hc.2⟩
  · rw [h] at hq; cases hq
theorem okL_suf {l m : List Bs} (h : okL l) (hm : m <:+ l) : okL m := fun x hx => h x (hm.subset hx)
theorem suf_ne {x : Bs} {l m : List Bs} (hl : okL (x :: l)) (hm : m <:+ l) : nameL m ≠ nameL (x :: l) := by
  intro e
  have e2 := nameL_inj (okL_suf hl (hm.trans (List.suffix_cons x l))) hl e
  have := hm.length_le
  rw [e2] at this
  simp at this
  omega
theorem Suf.tail {kn : Bool} {s : Bs} {t : Tab} {x : Bs} {l : List Bs} {a pos : Nat} (h : Suf s t (x :: l) a) (hl : okL (x :: l)) (z : Bs) : Suf (s ++ z) (keepT kn t (nameL (x :: l)) pos) l a := by
  intro m hm hne q hq
  rw [tabAt_keep_ne (suf_ne hl hm)] at hq
  obtain ⟨h1, h2, nx, h3⟩ := h m (hm.trans (List.suffix_cons x l)) hne q hq
  exact ⟨h1, h2, nx, h3.mono z⟩
theorem Suf.tail' {s : Bs} {t : Tab} {x : Bs} {l : List Bs} {a : Nat} (h : Suf s t (x :: l) a) (z : Bs) : Suf (s ++ z) t l a := by
  intro m hm hne q hq
  obtain ⟨h1, h2, nx, h3⟩ := h m (hm.trans (List.suffix_cons x l)) hne q hq
  exact ⟨h1, h2, nx, h3.mono z⟩
theorem Suf.up {s : Bs} {t : Tab} {l : List Bs} {a b : Nat} (h : Suf s t l a) (hab : a ≤ b) : Suf s t l b := fun m hm hne q hq => by
  obtain ⟨h1, h2⟩ := h m hm hne q hq
  exact ⟨by omega, h2⟩
theorem putL_reads {cmp kn : Bool} : ∀ (l : List Bs) (pos : Nat) (t : Tab) (s : Bs) (a : Nat), okL l → s.length = pos → Suf s t l a → Reads (s ++ (putL cmp kn l pos t).1) pos a (nameL l) (pos + (putL cmp kn l pos t).1.length)
  | [], pos, t, s, a, _, hs, _ => by
    subst hs
    exact .root (by simp [putL])
  | x :: l, pos, t, s, a, hl, hs, ht => by
    have hx := hl x (List.mem_cons_self ..)
    have hl' : okL l := fun y hy => hl y (List.mem_cons_of_mem _ hy)
    have go : ∀ t', Suf (s ++ UInt8.ofNat x.length :: x) t' l a → Reads (s ++ UInt8.ofNat x.length :: (x ++ (putL cmp kn l (pos + 1 + x.length) t').1)) pos a (nameL (x :: l)) (pos + (UInt8.ofNat x.length :: (x ++ (putL cmp kn l (pos + 1 + x.length) t').1)).length) := by
      intro t' ht'
      have h := putL_reads (cmp := cmp) (kn := kn) l (pos + 1 + x.length) t' (s ++ UInt8.ofNat x.length :: x) a hl' (by simp; omega) ht'
      rw [List.append_assoc, List.cons_append] at h
      rw [nameL_cons]
      refine .label (by omega) hx.2 ?_ ?_ ?_
      · rw [List.getElem?_append_right (by omega), hs, Nat.sub_self]; rfl
      · rw [← hs, List.drop_append, List.drop_eq_nil_of_le (by omega), show s.length + 1 - s.length = 1 by omega]
        simp
      · rw [show pos + (UInt8.ofNat x.length :: (x ++ (putL cmp kn l (pos + 1 + x.length) t').1)).length = pos + 1 + x.length + (putL cmp kn l (pos + 1 + x.length) t').1.length by simp; omega]
        exact h
    unfold putL
    cases hq : tabAt t (joinL (x :: l) ++ [0]) with
    | none => exact go _ (ht.tail hl _)
    | some q =>
      simp only
      split
      · obtain ⟨h1, h2, nx, h3⟩ := ht (x :: l) List.suffix_rfl (by simp) q hq
        refine .jump h1 h2 ?_ ?_ (h3.mono _)
        · rw [List.getElem?_append_right (by omega), hs, Nat.sub_self]
          show some (UInt8.ofNat ((49152 + q) / 256)) = _
          rw [show (49152 + q) / 256 = 192 + q / 256 by omega]
        · rw [List.getElem?_append_right (by omega), hs, show pos + 1 - pos = 1 by omega]
          show some (UInt8.ofNat (49152 + q)) = _
          congr 1
          apply UInt8.toNat_inj.1
          rw [UInt8.toNat_ofNat', UInt8.toNat_ofNat']; omega
      · exact go _ (ht.tail' _)
/-- The table: each ending that it has is read at its place. -/
def TabOk (s : Bs) (t : Tab) : Prop := ∀ n q, tabAt t n = some q → q ≤ 16383 ∧ q < s.length ∧ ∃ nx, Reads s q q n nx
theorem TabOk.mono {s : Bs} {t : Tab} (h : TabOk s t) (z : Bs) : TabOk (s ++ z) t := fun n q hq => by
  obtain ⟨h1, h2, nx, h3⟩ := h n q hq
  exact ⟨h1, by rw [List.length_append]; omega, nx, h3.mono z⟩
theorem TabOk.suf {s : Bs} {t : Tab} (h : TabOk s t) (l : List Bs) : Suf s t l s.length := fun m _ _ q hq => by
  obtain ⟨h1, h2, h3⟩ := h _ q hq
  exact ⟨h2, h1, h3⟩
theorem putL_tab {cmp kn : Bool} : ∀ (l : List Bs) (pos : Nat) (t : Tab) (s : Bs), okL l → s.length = pos → Suf s t l pos → ∀ n q, tabAt (putL cmp kn l pos t).2 n = some q →
    tabAt t n = some q ∨ (q ≤ 16383 ∧ q < pos + (putL cmp kn l pos t).1.length ∧ ∃ nx, Reads (s ++ (putL cmp kn l pos t).1) q q n nx)
  | [], pos, t, s, _, _, _, n, q, hq => .inl hq
  | x :: l, pos, t, s, hl, hs, ht, n, q, hq => by
    have hl' : okL l := fun y hy => hl y (List.mem_cons_of_mem _ hy)
    have hself := putL_reads (cmp := cmp) (kn := kn) (x :: l) pos t s pos hl hs ht
    have go : ∀ t', Suf (s ++ UInt8.ofNat x.length :: x) t' l pos → tabAt (putL cmp kn l (pos + 1 + x.length) t').2 n = some q →
        tabAt t' n = some q ∨ (q ≤ 16383 ∧ q < pos + (UInt8.ofNat x.length :: (x ++ (putL cmp kn l (pos + 1 + x.length) t').1)).length ∧ ∃ nx, Reads (s ++ UInt8.ofNat x.length :: (x ++ (putL cmp kn l (pos + 1 + x.length) t').1)) q q n nx) := by
      intro t' ht' hq'
      rcases putL_tab (cmp := cmp) (kn := kn) l (pos + 1 + x.length) t' (s ++ UInt8.ofNat x.length :: x) hl' (by simp; omega) (ht'.up (by omega)) n q hq' with h | ⟨h1, h2, nx, h3⟩
      · exact .inl h
      · refine .inr ⟨h1, by simp; omega, nx, ?_⟩
        rw [List.append_assoc, List.cons_append] at h3
        exact h3
    unfold putL at hq hself ⊢
    cases hc : tabAt t (joinL (x :: l) ++ [0]) with
    | none =>
      simp only [hc] at hq hself ⊢
      rcases go _ (ht.tail hl _) hq with h | h
      · by_cases hn : n = nameL (x :: l)
        · subst hn
          obtain ⟨rfl, h2⟩ := tabAt_keep_self hc h
          exact .inr ⟨h2, by simp only [List.length_cons]; omega, _, hself⟩
        · rw [tabAt_keep_ne hn] at h
          exact .inl h
      · exact .inr h
    | some q' =>
      simp only [hc] at hq ⊢
      split at hq
      · rename_i hcmp
        rw [if_pos hcmp]; exact .inl hq
      · rename_i hcmp
        rw [if_neg hcmp]
        exact go _ (ht.tail' _) hq
theorem nmW_ok {cmp kn : Bool} {n : Bs} {t : Tab} {s : Bs} (hn : mayB n = true) (ht : TabOk s t) :
    Reads (s ++ (nmW cmp kn n s.length t).1) s.length s.length n (s.length + (nmW cmp kn n s.length t).1.length) ∧ TabOk (s ++ (nmW cmp kn n s.length t).1) (nmW cmp kn n s.length t).2 := by
  obtain ⟨l, hl⟩ := may_iff.1 hn
  obtain ⟨h1, h2, h3⟩ := split_some.1 hl
  unfold nmW
  rw [hl, Option.getD_some]
  refine ⟨by have := putL_reads (cmp := cmp) (kn := kn) l s.length t s s.length h2 rfl (ht.suf l); rw [h1]; exact this, fun m q hq => ?_⟩
  rcases putL_tab l s.length t s h2 rfl (ht.suf l) m q hq with h | ⟨h4, h5, h6⟩
  · exact (ht.mono _) m q h
  · exact ⟨h4, by rw [List.length_append]; exact h5, h6⟩
theorem putL_len {cmp kn : Bool} : ∀ (l : List Bs) (pos : Nat) (t : Tab), 0 < (putL cmp kn l pos t).1.length ∧ (putL cmp kn l pos t).1.length ≤ (nameL l).length
  | [], pos, t => by simp [putL, nameL, joinL]
  | x :: l, pos, t => by
    have h1 := fun t' => putL_len (cmp := cmp) (kn := kn) l (pos + 1 + x.length) t'
    have hn : 0 < (nameL l).length := by simp [nameL]
    unfold putL
    rw [nameL_cons, List.length_cons, List.length_append]
    cases hc : tabAt t (joinL (x :: l) ++ [0]) with
    | none =>
      have := h1 (keepT kn t (joinL (x :: l) ++ [0]) pos)
      simp only [List.length_cons, List.length_append]; omega
    | some q =>
      simp only
      split
      · simp only [be2_len]; omega
      · have := h1 t
        simp only [List.length_cons, List.length_append]; omega
theorem nmW_len {cmp kn : Bool} {n : Bs} (hn : mayB n = true) (pos : Nat) (t : Tab) : 0 < (nmW cmp kn n pos t).1.length ∧ (nmW cmp kn n pos t).1.length ≤ n.length := by
  obtain ⟨l, hl⟩ := may_iff.1 hn
  obtain ⟨h1, h2, h3⟩ := split_some.1 hl
  unfold nmW
  rw [hl, Option.getD_some, h1]
  exact putL_len l pos t
end Go.Proofs.YtpoebplhemimmaaGreatDoor
