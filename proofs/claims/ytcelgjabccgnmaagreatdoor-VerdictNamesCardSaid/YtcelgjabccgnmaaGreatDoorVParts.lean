/-
  Verdicts, the plain laws: TTLs, letters, rows; times. No program is in sight here.
  Verdicts, the plain laws: keys. No program is in sight here.
  Verdicts, the plain laws: what is answered by a verdict has that verdict; times; keys that are plain. No program is in sight here.
-/
import Derived.Test.YtcelgjabccgnmaaGreatDoorVSpec
import Derived.Test.YtcelgjabccgnmaaGreatDoorRrL
import Derived.Test.YtcelgjabccgnmaaGreatDoorChainW
import Derived.Test.YtcelgjabccgnmaaGreatDoorKit2
namespace Go.Proofs.YtcelgjabccgnmaaGreatDoor
set_option linter.unusedVariables false

/-! ### TTLs change nothing else -/
/-- A change of TTLs alone. -/
def Ttl (f : RSet → RSet) : Prop := ∀ s, zeroT (f s) = zeroT s
theorem Ttl.name {f : RSet → RSet} (h : Ttl f) (s : RSet) : (f s).name = s.name := by have := congrArg RSet.name (h s); exact this
theorem Ttl.kind {f : RSet → RSet} (h : Ttl f) (s : RSet) : (f s).kind = s.kind := by have := congrArg RSet.kind (h s); exact this
theorem Ttl.cls {f : RSet → RSet} (h : Ttl f) (s : RSet) : (f s).cls = s.cls := by have := congrArg RSet.cls (h s); exact this
theorem Ttl.data {f : RSet → RSet} (h : Ttl f) (s : RSet) : (f s).data = s.data := by have := congrArg RSet.data (h s); exact this
theorem ttl_zero : Ttl zeroT := fun _ => rfl
theorem findS_ttl {f : RSet → RSet} (h : Ttl f) (l : List RSet) (n : Bs) (kind cls : Nat) : findS (l.map f) n kind cls = (findS l n kind cls).map f := by
  unfold findS
  rw [List.find?_map]
  congr 2
  funext s
  show isS n kind cls (f s) = isS n kind cls s
  unfold isS
  rw [h.kind, h.cls, h.name]
theorem targetS_ttl {f : RSet → RSet} (h : Ttl f) (s : RSet) : targetS (f s) = targetS s := by unfold targetS; rw [h.data]
theorem getD_map {f : RSet → RSet} {o : Option RSet} (h : o.isSome = true) : (o.map f).getD noSet = f (o.getD noSet) := by
  cases o with
  | none => cases h
  | some s => rfl
theorem followG_ttl {f : RSet → RSet} (h : Ttl f) (l : List RSet) (kind cls : Nat) : ∀ (k : Nat) (p : Bs) (met : List Bs) (ch : List RSet),
    followG (l.map f) kind cls k p met (ch.map f) = ((followG l kind cls k p met ch).1, (followG l kind cls k p met ch).2.1.map f, (followG l kind cls k p met ch).2.2)
  | 0, p, met, ch => by
    unfold followG
    rw [findS_ttl h, Option.isSome_map]
    split
    · rfl
    · split <;> rfl
  | k + 1, p, met, ch => by
    rw [followG, followG, findS_ttl h, findS_ttl h, Option.isSome_map, Option.isSome_map]
    split
    · rfl
    · split
      · rename_i hs
        rw [getD_map hs, targetS_ttl h]
        split
        · rfl
        · split
          · rfl
          · have := followG_ttl h l kind cls k ((targetS ((findS l p 5 cls).getD noSet)).getD []) (met ++ [(targetS ((findS l p 5 cls).getD noSet)).getD []]) (ch ++ [(findS l p 5 cls).getD noSet])
            rw [List.map_append] at this
            exact this
      · rfl
theorem followC_ttl {f : RSet → RSet} (h : Ttl f) (l : List RSet) (nm : Bs) (kind cls : Nat) :
    followC nm kind cls (l.map f) = ((followC nm kind cls l).1, (followC nm kind cls l).2.1.map f, (followC nm kind cls l).2.2) := by
  unfold followC
  split
  · exact followG_ttl h l kind cls 8 (fold nm) [fold nm] []
  · rfl
theorem endsOf_ttl {f : RSet → RSet} (h : Ttl f) (l : List RSet) (r r' : FRes) (kind cls : Nat) (h1 : r'.1 = r.1) (h2 : r'.2.2 = r.2.2) : endsOf r' kind cls (l.map f) = (endsOf r kind cls l).map f := by
  unfold endsOf
  rw [h1, h2, findS_ttl h]
  split
  · cases findS l r.2.2 kind cls <;> rfl
  · rfl
theorem fitS_ttl {f : RSet → RSet} (h : Ttl f) (nm : Bs) (cls : Nat) (s : RSet) : fitS nm cls (f s) = fitS nm cls s := by unfold fitS; rw [h.kind, h.cls, h.name]
theorem bestGo_ttl {f : RSet → RSet} (h : Ttl f) (nm : Bs) (cls : Nat) : ∀ (l : List RSet) (o : Option RSet), bestGo nm cls (l.map f) (o.map f) = (bestGo nm cls l o).map f
  | [], o => rfl
  | s :: l, o => by
    rw [List.map_cons, bestGo, bestGo, fitS_ttl h]
    have hb : better (o.map f) (f s) = better o s := by
      cases o with
      | none => rfl
      | some t => simp only [Option.map_some, better, h.name]
    rw [hb]
    have := bestGo_ttl h nm cls l (if (fitS nm cls s && better o s) = true then some s else o)
    rw [← this]
    congr 1
    split <;> rfl
theorem soaN_ttl {f : RSet → RSet} (h : Ttl f) (l : List RSet) (nm : Bs) (cls : Nat) : soaN (l.map f) nm cls = ((soaN l nm cls).1, (soaN l nm cls).2.map f) := by
  have hx : bestGo nm cls (l.map f) none = (bestGo nm cls l none).map f := bestGo_ttl h nm cls l none
  unfold soaN
  rw [hx]
  cases bestGo nm cls l none with
  | none => rfl
  | some s =>
    simp only [Option.map_some, h.data]
    by_cases hd : s.data.length = 1
    · rw [if_pos hd, if_pos hd]; rfl
    · rw [if_neg hd, if_neg hd]; rfl
theorem map_zero_ttl {f : RSet → RSet} (h : Ttl f) (l : List RSet) : (l.map f).map zeroT = l.map zeroT := by
  rw [List.map_map]; exact List.map_congr_left fun s _ => h s
/-- Sets with other TTLs: the verdict, or the error, is the same. -/
theorem verdG_ttl {f k : RSet → RSet} (hf : Ttl f) (hk : Ttl k) (g h : List RSet) (nm : Bs) (kind cls code : Nat) :
    (verdG (g.map f) (h.map k) nm kind cls code).1 = (verdG g h nm kind cls code).1 ∧ (verdG (g.map f) (h.map k) nm kind cls code).2.1 = (verdG g h nm kind cls code).2.1 := by
  have e1 := followC_ttl hf g nm kind cls
  have e2 := endsOf_ttl hf g (followC nm kind cls g) (followC nm kind cls (g.map f)) kind cls (by rw [e1]) (by rw [e1])
  unfold verdG
  rw [e2]
  simp only [e1]
  rw [soaN_ttl hk]
  have hne : (endsOf (followC nm kind cls g) kind cls g).map f ≠ [] ↔ endsOf (followC nm kind cls g) kind cls g ≠ [] := by simp
  simp only [hne]
  split
  · split
    · exact ⟨rfl, rfl⟩
    · split
      · exact ⟨rfl, rfl⟩
      · split
        · refine ⟨rfl, ?_⟩
          simp only [Verd.mk.injEq, true_and, and_true]
          rw [← List.map_append, map_zero_ttl hf]
        · split
          · exact ⟨rfl, rfl⟩
          · cases (soaN h (followC nm kind cls g).2.2 cls).2 with
            | none => exact ⟨rfl, by simp only [Option.map_none, map_zero_ttl hf]⟩
            | some s => exact ⟨rfl, by simp only [Option.map_some, map_zero_ttl hf, hk s]⟩
  · exact ⟨rfl, rfl⟩

/-! ### Letters -/
def isLet (c : UInt8) : Bool := (decide (97 ≤ c.toNat) && decide (c.toNat ≤ 122)) || (decide (65 ≤ c.toNat) && decide (c.toNat ≤ 90))
def letF : Nat → Bs → Bs
  | _, [] => []
  | k, c :: t => (if isLet c = true ∧ k % 2 = 0 then c ^^^ 32 else c) :: letF (k + 1) t
theorem let_all : ∀ n : Nat, n < 256 → isLet (UInt8.ofNat n) = true → isLet (UInt8.ofNat n ^^^ 32) = true ∧ (UInt8.ofNat n ^^^ 32) ^^^ 32 = UInt8.ofNat n ∧ lowB (UInt8.ofNat n ^^^ 32) = lowB (UInt8.ofNat n) ∧ 63 < (UInt8.ofNat n).toNat := by decide +kernel
theorem let_one {c : UInt8} (h : isLet c = true) : isLet (c ^^^ 32) = true ∧ (c ^^^ 32) ^^^ 32 = c ∧ lowB (c ^^^ 32) = lowB c ∧ 63 < c.toNat := by
  have := let_all c.toNat c.toNat_lt
  simp only [UInt8.ofNat_toNat] at this
  exact this h
theorem letF_len : ∀ (k : Nat) (n : Bs), (letF k n).length = n.length
  | _, [] => rfl
  | k, c :: t => by rw [letF, List.length_cons, letF_len, List.length_cons]
theorem low_letF : ∀ (k : Nat) (n : Bs), low (letF k n) = low n
  | _, [] => rfl
  | k, c :: t => by
    show lowB _ :: low _ = lowB _ :: low _
    rw [low_letF]
    congr 1
    split
    · rename_i h; exact (let_one h.1).2.2.1
    · rfl
theorem letF_back : ∀ (k : Nat) (n : Bs), letF k (letF k n) = n
  | _, [] => rfl
  | k, c :: t => by
    rw [letF, letF, letF_back]
    congr 1
    by_cases h : isLet c = true ∧ k % 2 = 0
    · rw [if_pos h, if_pos ⟨(let_one h.1).1, h.2⟩]; exact (let_one h.1).2.1
    · rw [if_neg h, if_neg h]
theorem letF_append : ∀ (k : Nat) (a b : Bs), letF k (a ++ b) = letF k a ++ letF (k + a.length) b
  | k, [], b => rfl
  | k, c :: a, b => by
    rw [List.cons_append, letF, letF, letF_append, List.length_cons, show k + 1 + a.length = k + (a.length + 1) by omega]; rfl
theorem letF_join : ∀ (l : List Bs) (k : Nat), okL l → ∃ m, letF k (joinL l ++ [0]) = joinL m ++ [0] ∧ m.map low = l.map low
  | [], k, _ => ⟨[], by
      show (if isLet 0 = true ∧ k % 2 = 0 then _ else _) :: letF (k + 1) [] = _
      rw [if_neg (fun h => by cases h.1)]; rfl, rfl⟩
  | x :: l, k, h => by
    have hx := h x (List.mem_cons_self ..)
    obtain ⟨m, h1, h2⟩ := letF_join l (k + 1 + x.length) fun y hy => h y (List.mem_cons_of_mem _ hy)
    refine ⟨letF (k + 1) x :: m, ?_, by rw [List.map_cons, List.map_cons, h2, low_letF]⟩
    have e : joinL (x :: l) ++ [0] = UInt8.ofNat x.length :: (x ++ (joinL l ++ [0])) := by simp [joinL]
    rw [e, letF, letF_append, h1, if_neg (fun h => by have := (let_one h.1).2.2.2; rw [len8 hx.2] at this; omega)]
    simp [joinL, letF_len]
theorem okL_low {a b : List Bs} (h : a.map low = b.map low) (hb : okL b) : okL a := by
  intro x hx
  have : low x ∈ b.map low := by rw [← h]; exact List.mem_map_of_mem hx
  obtain ⟨y, hy, e⟩ := List.mem_map.1 this
  have := hb y hy
  have h2 := congrArg List.length e
  rw [low_len, low_len] at h2
  omega
theorem split_letF {n : Bs} {l : List Bs} (h : split n = some l) (k : Nat) : ∃ m, split (letF k n) = some m ∧ m.map low = l.map low := by
  obtain ⟨h1, h2, h3⟩ := split_some.1 h
  obtain ⟨m, h4, h5⟩ := letF_join l k h2
  refine ⟨m, split_some.2 ⟨by rw [← h4, ← h1], okL_low h5 h2, ?_⟩, h5⟩
  rw [← join_low, h5, join_low]; exact h3
theorem may_letF (k : Nat) (n : Bs) : mayB (letF k n) = mayB n := by
  have go : ∀ n, mayB n = true → mayB (letF k n) = true := fun n h => by
    obtain ⟨l, hl⟩ := may_iff.1 h
    obtain ⟨m, hm, -⟩ := split_letF hl k
    exact may_iff.2 ⟨m, hm⟩
  cases h : mayB n with
  | true => exact go n h
  | false =>
    cases h2 : mayB (letF k n) with
    | false => rfl
    | true => have := go _ h2; rw [letF_back, h] at this; exact this.symm
theorem fold_letF (k : Nat) (n : Bs) : fold (letF k n) = fold n := by
  cases h : split n with
  | none =>
    have h2 : mayB (letF k n) = false := by rw [may_letF, mayB, h]; rfl
    rw [fold_none h, fold_none (may_no h2)]
  | some l =>
    obtain ⟨m, hm, e⟩ := split_letF h k
    rw [fold_some h, fold_some hm, e]
def letR (k : Nat) (r : Rec) : Rec := ⟨letF k r.name, r.kind, r.cls, r.ttl, r.data⟩
theorem letR_same (k : Nat) (r : Rec) : rmay (letR k r) = rmay r ∧ (rmay r = true → setOf (letR k r) = setOf r) := by
  have h : rmay (letR k r) = rmay r := by unfold rmay letR; simp only [may_letF]
  refine ⟨h, fun hm => ?_⟩
  rw [setOf, setOf, if_pos (by rw [h]; exact hm), if_pos hm]
  simp only [letR, fold_letF]
theorem group_let (k : Nat) (l : List Rec) : groupN (l.map (letR k)) = groupN l := group_map (letR k) l fun r _ => letR_same k r
theorem verdG_let (k : Nat) (g h : List RSet) (nm : Bs) (kind cls code : Nat) : verdG g h (letF k nm) kind cls code = verdG g h nm kind cls code := by
  have : followC (letF k nm) kind cls g = followC nm kind cls g := by unfold followC; rw [may_letF, fold_letF]
  unfold verdG
  rw [this, may_letF]
/-- Records in another row, one of them twice, the letters of names turned. -/
def turnN (l : List Rec) (k a : Nat) : List Rec := (l.drop k ++ l.take k ++ (l[k]?).toList).map (letR a)
theorem group_turn (l : List Rec) (k a : Nat) : groupN (turnN l k a) = groupN l := by
  unfold turnN
  rw [group_let]
  refine group_rows fun r => ?_
  constructor
  · intro h
    rcases List.mem_append.1 h with h | h
    · rcases List.mem_append.1 h with h | h
      · exact List.mem_of_mem_drop h
      · exact List.mem_of_mem_take h
    · cases hk : l[k]? with
      | none => rw [hk] at h; cases h
      | some x =>
        rw [hk] at h
        rw [show r = x by simpa using h]; exact List.mem_of_getElem? hk
  · intro h
    rw [← List.take_append_drop k l] at h
    rcases List.mem_append.1 h with h | h
    · exact List.mem_append_left _ (List.mem_append_right _ h)
    · exact List.mem_append_left _ (List.mem_append_left _ h)
/-- All TTLs one. -/
theorem group_all (l : List Rec) (t : Nat) : (groupN (l.map fun r => reTtl r t)).map zeroT = (groupN l).map zeroT := by
  obtain ⟨hs, hr⟩ := group_holds l
  have e : (groupN l).map (fun s => { s with ttl := timeN t }) = groupN (l.map fun r => reTtl r t) := by
    refine group_eq ⟨fun s hs' => ?_, fun r hr hm => ?_, ?_⟩ ?_
    · obtain ⟨s0, h0, rfl⟩ := List.mem_map.1 hs'
      have h := hs.is s0 h0
      obtain ⟨q, hq, hk, -⟩ := h.at'
      refine ⟨fun x => ?_, h.rise, fun r hr hk => ?_, ⟨reTtl q t, List.mem_map_of_mem hq, hk, rfl⟩⟩
      · rw [h.data]
        constructor
        · rintro ⟨r, hr, hk, e⟩; exact ⟨reTtl r t, List.mem_map_of_mem hr, hk, e⟩
        · rintro ⟨r, hr, hk, e⟩
          obtain ⟨r0, hr0, rfl⟩ := List.mem_map.1 hr
          exact ⟨r0, hr0, hk, e⟩
      · obtain ⟨r0, hr0, rfl⟩ := List.mem_map.1 hr
        exact Nat.le_refl _
    · obtain ⟨r0, hr0, rfl⟩ := List.mem_map.1 hr
      obtain ⟨s, h1, h2⟩ := hs.all r0 hr0 hm
      exact ⟨_, List.mem_map_of_mem h1, h2⟩
    · exact List.pairwise_map.2 (hs.once.imp fun h h2 => h h2)
    · exact List.pairwise_map.2 (hr.imp fun h => h)
  rw [← e, List.map_map]
  rfl

/-! ### Times -/
theorem leastT_le : ∀ (l : List RSet) (t : Nat), leastT l t ≤ t ∧ ∀ s ∈ l, leastT l t ≤ s.ttl
  | [], t => ⟨Nat.le_refl _, fun _ h => (List.not_mem_nil h).elim⟩
  | s :: l, t => by
    obtain ⟨h1, h2⟩ := leastT_le l (min t s.ttl)
    refine ⟨Nat.le_trans h1 (Nat.min_le_left ..), fun x hx => ?_⟩
    rcases List.mem_cons.1 hx with rfl | hx
    · exact Nat.le_trans h1 (Nat.min_le_right ..)
    · exact h2 x hx
theorem leastT_mono {f : RSet → RSet} : ∀ (l : List RSet) (t u : Nat), t ≤ u → (∀ s ∈ l, (f s).ttl ≤ s.ttl) → leastT (l.map f) t ≤ leastT l u
  | [], t, u, h, _ => h
  | s :: l, t, u, h, hl => by
    have := hl s (List.mem_cons_self ..)
    exact leastT_mono l (min t (f s).ttl) (min u s.ttl) (by omega) fun x hx => hl x (List.mem_cons_of_mem _ hx)
end Go.Proofs.YtcelgjabccgnmaaGreatDoor
namespace Go.Proofs.YtcelgjabccgnmaaGreatDoor
set_option linter.unusedVariables false

/-- What is written can be read back, whatever stands behind it. -/
def PF {α : Type} (ok : α → Prop) (enc : α → Bs) : Prop := ∀ a b r r', ok a → ok b → enc a ++ r = enc b ++ r' → a = b ∧ r = r'
theorem PF.list {α : Type} {ok : α → Prop} {enc : α → Bs} (h : PF ok enc) : ∀ (l m : List α) (r r' : Bs), l.length = m.length → (∀ a ∈ l, ok a) → (∀ a ∈ m, ok a) → l.flatMap enc ++ r = m.flatMap enc ++ r' → l = m ∧ r = r'
  | [], [], r, r', _, _, _, e => ⟨rfl, by simpa using e⟩
  | [], _ :: _, _, _, hl, _, _, _ => by simp at hl
  | _ :: _, [], _, _, hl, _, _, _ => by simp at hl
  | a :: l, b :: m, r, r', hl, h1, h2, e => by
    rw [List.flatMap_cons, List.flatMap_cons, List.append_assoc, List.append_assoc] at e
    obtain ⟨e1, e2⟩ := h a b _ _ (h1 a (List.mem_cons_self ..)) (h2 b (List.mem_cons_self ..)) e
    obtain ⟨e3, e4⟩ := h.list l m r r' (by simpa using hl) (fun x hx => h1 x (List.mem_cons_of_mem _ hx)) (fun x hx => h2 x (List.mem_cons_of_mem _ hx)) e2
    exact ⟨by rw [e1, e3], e4⟩
theorem pf_two : PF (fun n => n < 65536) two8 := by
  intro a b r r' ha hb e
  simp only [two8, List.cons_append, List.nil_append, List.cons.injEq] at e
  obtain ⟨e1, e2, e3⟩ := e
  have h1 := congrArg UInt8.toNat e1
  have h2 := congrArg UInt8.toNat e2
  simp only [UInt8.toNat_ofNat'] at h1 h2
  exact ⟨by omega, e3⟩
theorem pf_join : ∀ (a b : List Bs) (r r' : Bs), okL a → okL b → (joinL a ++ [0]) ++ r = (joinL b ++ [(0 : UInt8)]) ++ r' → a = b ∧ r = r'
  | [], [], r, r', _, _, e => ⟨rfl, by simpa [joinL] using e⟩
  | [], y :: b, r, r', _, hb, e => by
    have hy := hb y (List.mem_cons_self ..)
    have h2 : (0 : UInt8) = UInt8.ofNat y.length := by simpa [joinL] using congrArg List.head? e
    have := congrArg UInt8.toNat h2
    rw [len8 hy.2] at this
    have h0 : (0 : UInt8).toNat = 0 := rfl
    omega
  | x :: a, [], r, r', ha, _, e => by
    have hx := ha x (List.mem_cons_self ..)
    have h2 : UInt8.ofNat x.length = (0 : UInt8) := by simpa [joinL] using congrArg List.head? e
    have := congrArg UInt8.toNat h2
    rw [len8 hx.2] at this
    have h0 : (0 : UInt8).toNat = 0 := rfl
    omega
  | x :: a, y :: b, r, r', ha, hb, e => by
    have hx := ha x (List.mem_cons_self ..)
    have hy := hb y (List.mem_cons_self ..)
    have e' : UInt8.ofNat x.length :: (x ++ ((joinL a ++ [0]) ++ r)) = UInt8.ofNat y.length :: (y ++ ((joinL b ++ [0]) ++ r')) := by simpa [joinL] using e
    obtain ⟨h1, h2⟩ := List.cons.inj e'
    have h3 := congrArg UInt8.toNat h1
    rw [len8 hx.2, len8 hy.2] at h3
    obtain ⟨h4, h5⟩ := List.append_inj h2 h3
    obtain ⟨h6, h7⟩ := pf_join a b r r' (fun z hz => ha z (List.mem_cons_of_mem _ hz)) (fun z hz => hb z (List.mem_cons_of_mem _ hz)) h5
    exact ⟨by rw [h4, h6], h7⟩
theorem pf_name : PF (fun n => mayB n = true) (fun n => n) := by
  intro a b r r' ha hb e
  obtain ⟨l, hl⟩ := may_iff.1 ha
  obtain ⟨m, hm⟩ := may_iff.1 hb
  obtain ⟨h1, h2, -⟩ := split_some.1 hl
  obtain ⟨h3, h4, -⟩ := split_some.1 hm
  rw [h1, h3] at e
  obtain ⟨h5, h6⟩ := pf_join l m r r' h2 h4 e
  exact ⟨by rw [h1, h3, h5], h6⟩
theorem pf_text : PF (fun d : Bs => d.length < 65536) keyT := by
  intro a b r r' ha hb e
  unfold keyT at e
  rw [List.append_assoc, List.append_assoc] at e
  obtain ⟨h1, h2⟩ := pf_two _ _ _ _ ha hb e
  obtain ⟨h3, h4⟩ := List.append_inj h2 h1
  exact ⟨h3, h4⟩
/-- A set whose key is plain. -/
structure KeyOk (s : RSet) : Prop where
  name : mayB s.name = true
  kind : s.kind < 65536
  cls : s.cls < 65536
  ttl : s.ttl = 0
  data : s.data.length < 65536
  each : ∀ d ∈ s.data, d.length < 65536
theorem pf_set : PF KeyOk keyS := by
  rintro ⟨an, ak, ac, at', ad⟩ ⟨bn, bk, bc, bt, bd⟩ r r' ha hb e
  unfold keyS at e
  simp only [List.append_assoc] at e
  obtain ⟨h1, e⟩ := pf_name _ _ _ _ ha.name hb.name e
  obtain ⟨h2, e⟩ := pf_two _ _ _ _ ha.kind hb.kind e
  obtain ⟨h3, e⟩ := pf_two _ _ _ _ ha.cls hb.cls e
  obtain ⟨h4, e⟩ := pf_two _ _ _ _ ha.data hb.data e
  obtain ⟨h5, e9⟩ := pf_text.list _ _ _ _ h4 ha.each hb.each e
  have t1 := ha.ttl
  have t2 := hb.ttl
  simp only at h1 h2 h3 h5 t1 t2
  subst h1 h2 h3 h5 t1 t2
  exact ⟨rfl, e9⟩
theorem pf_sets : PF (fun l : List RSet => l.length < 256 ∧ ∀ s ∈ l, KeyOk s) keyL := by
  intro a b r r' ha hb e
  simp only [keyL, List.cons_append, List.cons.injEq] at e
  obtain ⟨h1, h2⟩ := e
  have h3 := congrArg UInt8.toNat h1
  simp only [UInt8.toNat_ofNat'] at h3
  have ha1 := ha.1
  have hb1 := hb.1
  exact pf_set.list _ _ _ _ (by omega) ha.2 hb.2 h2
structure VerdOk (v : Verd) : Prop where
  code : v.code < 256
  sets : v.sets.length < 10
  soa : v.soa.length < 10
  each : ∀ s ∈ v.sets ++ v.soa, KeyOk s
theorem keyV_inj {v w : Verd} (hv : VerdOk v) (hw : VerdOk w) (e : keyV v = keyV w) : v = w := by
  obtain ⟨vc, vs, vo⟩ := v
  obtain ⟨wc, ws, wo⟩ := w
  simp only [keyV, List.cons.injEq] at e
  obtain ⟨h1, h2⟩ := e
  have h3 := congrArg UInt8.toNat h1
  simp only [UInt8.toNat_ofNat'] at h3
  obtain ⟨h4, h5⟩ := pf_sets _ _ _ _ ⟨Nat.lt_trans hv.sets (by decide), fun s hs => hv.each s (List.mem_append_left _ hs)⟩ ⟨Nat.lt_trans hw.sets (by decide), fun s hs => hw.each s (List.mem_append_left _ hs)⟩ h2
  obtain ⟨h6, -⟩ := pf_sets vo wo [] [] ⟨Nat.lt_trans hv.soa (by decide), fun s hs => hv.each s (List.mem_append_right _ hs)⟩ ⟨Nat.lt_trans hw.soa (by decide), fun s hs => hw.each s (List.mem_append_right _ hs)⟩ (by rw [h5])
  have c1 := hv.code
  have c2 := hw.code
  simp only at c1 c2 h4 h6
  obtain rfl : vc = wc := by omega
  subst h4 h6
  rfl
/-- Records that have room in a message. -/
structure RecsS (l : List Rec) : Prop where
  len : l.length < 4000
  each : ∀ r ∈ l, r.name.length < 4000 ∧ r.kind < 65536 ∧ r.cls < 65536 ∧ r.data.length < 4000
theorem RecsS.recsB {l : List Rec} (h : RecsS l) : l.length < 1000000 ∧ ∀ r ∈ l, r.name.length < 1000000 ∧ r.data.length < 1000000 :=
  ⟨by have := h.len; omega, fun r hr => by have := h.each r hr; omega⟩
end Go.Proofs.YtcelgjabccgnmaaGreatDoor
namespace Go.Proofs.YtcelgjabccgnmaaGreatDoor
set_option linter.unusedVariables false

/-! ### Sets back from their records -/
theorem sets_back {l : List Rec} {M : List RSet} (hs : ∀ s ∈ M, IsSet l s) (ho : M.Pairwise fun a b => ¬ sameK a b) : SetsOf (M.flatMap recsOf) M := by
  have key : ∀ s ∈ M, ∀ r ∈ M.flatMap recsOf, hasKey r s → r ∈ recsOf s := by
    intro s h1 r hr hk
    obtain ⟨t, ht, hrt⟩ := List.mem_flatMap.1 hr
    have hkt := (recsOf_key (hs t ht) hrt).1
    have e : t = s := (hs t ht).eq (hs s h1) (hkt.same hk)
    rwa [← e]
  refine ⟨fun s h1 => ?_, fun r hr hm => ?_, ho⟩
  · have h := hs s h1
    refine ⟨fun x => ⟨fun hx => ?_, fun ⟨r, hr, hk, e⟩ => ?_⟩, h.rise, fun r hr hk => ?_, ?_⟩
    · have hm : (⟨s.name, s.kind, s.cls, s.ttl, x⟩ : Rec) ∈ recsOf s := List.mem_map.2 ⟨x, hx, rfl⟩
      have := recsOf_key h hm
      exact ⟨_, List.mem_flatMap.2 ⟨s, h1, hm⟩, this.1, this.2.1⟩
    · have := recsOf_key h (key s h1 r hr hk)
      rw [← e, this.2.1]; exact this.2.2.1
    · have := recsOf_key h (key s h1 r hr hk)
      rw [this.2.2.2]; exact Nat.le_refl _
    · cases hd : s.data with
      | nil => exact absurd hd h.some
      | cons x t =>
        have hm : (⟨s.name, s.kind, s.cls, s.ttl, x⟩ : Rec) ∈ recsOf s := List.mem_map.2 ⟨x, by rw [hd]; exact List.mem_cons_self .., rfl⟩
        have := recsOf_key h hm
        exact ⟨_, List.mem_flatMap.2 ⟨s, h1, hm⟩, this.1, this.2.2.2.symm⟩
  · obtain ⟨s, h1, hrs⟩ := List.mem_flatMap.1 hr
    exact ⟨s, h1, (recsOf_key (hs s h1) hrs).1⟩
theorem mem_sets {l : List Rec} {M : List RSet} (hs : ∀ s ∈ M, IsSet l s) (ho : M.Pairwise fun a b => ¬ sameK a b) (s : RSet) : s ∈ groupN (M.flatMap recsOf) ↔ s ∈ M := by
  rw [group_mem, (sets_back hs ho).mem]
/-- The sets of records without TTLs. -/
theorem group_zero (l : List Rec) : (groupN l).map zeroT = groupN (l.map fun r => reTtl r 0) := by
  rw [← group_all l 0]
  have h : ∀ s ∈ groupN (l.map fun r => reTtl r 0), zeroT s = s := by
    intro s hs
    obtain ⟨r, hr, -, e⟩ := ((group_mem _ s).1 hs).at'
    obtain ⟨q, -, rfl⟩ := List.mem_map.1 hr
    have e' : s.ttl = 0 := e
    cases s; simp only at e'; subst e'; rfl
  conv => rhs; rw [← List.map_id (groupN (l.map fun r => reTtl r 0))]
  exact List.map_congr_left h

/-! ### A way among fewer sets -/
theorem follow_sub {u v : List RSet} {kind cls : Nat} (hA : ∀ p k s, findS v p k cls = some s → findS u p k cls = some s) : ∀ (f : Nat) (p : Bs) (met : List Bs) (ch0 ch : List RSet) (q : Bs),
    followG u kind cls f p met ch0 = (0, ch, q) → (∀ s ∈ ch, ∀ p, findS u p 5 cls = some s → findS v p 5 cls = some s) → followG v kind cls f p met ch0 = (0, ch, q)
  | f, p, met, ch0, ch, q, h, hB => by
    have hno : ∀ k, findS u p k cls = none → findS v p k cls = none := by
      intro k hk
      cases hv : findS v p k cls with
      | none => rfl
      | some s => rw [hA p k s hv] at hk; cases hk
    cases f with
    | zero =>
      unfold followG at h ⊢
      split at h
      · rename_i h5; rw [if_pos h5]; exact h
      · rename_i h5
        rw [if_neg h5]
        split at h
        · simp at h
        · rename_i h1
          rw [hno 5 (Option.not_isSome_iff_eq_none.1 h1), if_neg (by simp)]; exact h
    | succ f =>
      unfold followG at h ⊢
      split at h
      · rename_i h5; rw [if_pos h5]; exact h
      · rename_i h5
        rw [if_neg h5]
        split at h
        · rename_i h1
          obtain ⟨s, hs⟩ := Option.isSome_iff_exists.1 h1
          rw [hs] at h
          split at h
          · simp at h
          · rename_i h2
            split at h
            · simp at h
            · rename_i h3
              obtain ⟨c, e, -⟩ := followG_way f _ _ _ _ _ h
              have hm : s ∈ ch := by rw [e]; simp
              have hv := hB s hm p hs
              rw [hv, if_pos (by rfl)]
              have h2' := not_or.1 h2
              rw [if_neg (not_or.2 ⟨h2'.1, by rw [hno kind (Option.not_isSome_iff_eq_none.1 h2'.2)]; simp⟩), if_neg h3]
              exact follow_sub hA f _ _ _ _ _ h hB
        · rename_i h1
          rw [hno 5 (Option.not_isSome_iff_eq_none.1 h1), if_neg (by simp)]; exact h
theorem way_names {l : List Rec} {cls : Nat} : ∀ {ch : List RSet} {p q : Bs} {met : List Bs}, fold p = p → p ∈ met → Way (groupN l) cls p met ch q → (ch.Pairwise fun a b => a.name ≠ b.name) ∧ (∀ s ∈ ch, s.name = p ∨ s.name ∉ met) ∧ ∀ s ∈ ch, s.kind = 5 ∧ s ∈ groupN l
  | [], p, q, met, _, _, _ => ⟨.nil, fun _ h => (List.not_mem_nil h).elim, fun _ h => (List.not_mem_nil h).elim⟩
  | s :: ch, p, q, met, hp, hm, h => by
    obtain ⟨h1, h2, h3, h4, h5⟩ := h
    obtain ⟨e1, e2, -, e4⟩ := group_find hp h1
    obtain ⟨i1, i2, i3⟩ := way_names (fold_fold _) (List.mem_append_right _ (List.mem_singleton.2 rfl)) h5
    have hno : ∀ t ∈ ch, t.name ∉ met := by
      intro t ht hx
      rcases i2 t ht with e | e
      · rw [e] at hx; exact h4 hx
      · exact e (List.mem_append_left _ hx)
    refine ⟨List.pairwise_cons.2 ⟨fun t ht e => hno t ht (by rw [← e, e1]; exact hm), i1⟩, fun t ht => ?_, fun t ht => ?_⟩
    · rcases List.mem_cons.1 ht with rfl | ht
      · exact .inl e1
      · exact .inr (hno t ht)
    · rcases List.mem_cons.1 ht with rfl | ht
      · exact ⟨e2, e4⟩
      · exact i3 t ht
/-- The chain, and the end. -/
def allOf (g : List RSet) (nm : Bs) (kind cls : Nat) : List RSet := (followC nm kind cls g).2.1 ++ endsOf (followC nm kind cls g) kind cls g
theorem all_mem (g : List RSet) (nm : Bs) (kind cls : Nat) : (allOf g nm kind cls).length ≤ 9 ∧ ∀ s ∈ allOf g nm kind cls, s ∈ g := by
  have h1 := followC_mem nm kind cls g
  have h2 := endsOf_mem (followC nm kind cls g) kind cls g
  refine ⟨by unfold allOf; rw [List.length_append]; omega, fun s hs => ?_⟩
  rcases List.mem_append.1 hs with h | h
  · exact h1.2 s h
  · exact h2.2 s h
theorem all_once {l : List Rec} {nm : Bs} {kind cls : Nat} (h : (followC nm kind cls (groupN l)).1 = 0) : (allOf (groupN l) nm kind cls).Pairwise fun a b => ¬ sameK a b := by
  obtain ⟨hm, hw, h5, -⟩ := followC_way h
  obtain ⟨i1, i2, i3⟩ := way_names (fold_fold _) (List.mem_singleton.2 rfl) hw
  unfold allOf
  refine List.pairwise_append.2 ⟨i1.imp fun h e => h e.1, ?_, fun a ha b hb e => ?_⟩
  · unfold endsOf
    rw [if_pos h]
    cases findS (groupN l) (followC nm kind cls (groupN l)).2.2 kind cls with
    | none => exact .nil
    | some s => exact List.pairwise_singleton ..
  · unfold endsOf at hb
    rw [if_pos h] at hb
    cases hf : findS (groupN l) (followC nm kind cls (groupN l)).2.2 kind cls with
    | none => rw [hf] at hb; cases hb
    | some s =>
      rw [hf] at hb
      have : b = s := by simpa using hb
      subst this
      have hk := (findS_mem hf).2
      unfold isS at hk
      simp only [Bool.and_eq_true, decide_eq_true_eq] at hk
      have h55 : kind = 5 := by rw [← hk.1.1, ← e.2.1]; exact (i3 a ha).1
      rw [(h5 h55).1] at ha
      cases ha
/-- The sets of the records of the chain, and the end, come to the same. -/
theorem follow_back {l : List Rec} {nm : Bs} {kind cls : Nat} (h : (followC nm kind cls (groupN l)).1 = 0) :
    followC nm kind cls (groupN ((allOf (groupN l) nm kind cls).flatMap recsOf)) = followC nm kind cls (groupN l) ∧
    endsOf (followC nm kind cls (groupN l)) kind cls (groupN ((allOf (groupN l) nm kind cls).flatMap recsOf)) = endsOf (followC nm kind cls (groupN l)) kind cls (groupN l) := by
  have hM := (all_mem (groupN l) nm kind cls).2
  have hmem := mem_sets (l := l) (M := allOf (groupN l) nm kind cls) (fun s hs => (group_mem l s).1 (hM s hs)) (all_once h)
  have hA : ∀ p k s, findS (groupN ((allOf (groupN l) nm kind cls).flatMap recsOf)) p k cls = some s → findS (groupN l) p k cls = some s := by
    intro p k s hs
    obtain ⟨h1, h2⟩ := findS_mem hs
    exact group_isS (hM s ((hmem s).1 h1)) h2
  have hB : ∀ s ∈ allOf (groupN l) nm kind cls, ∀ p k, findS (groupN l) p k cls = some s → findS (groupN ((allOf (groupN l) nm kind cls).flatMap recsOf)) p k cls = some s := by
    intro s hs p k hf
    exact group_isS ((hmem s).2 hs) (findS_mem hf).2
  obtain ⟨hm, -, -, -⟩ := followC_way h
  refine ⟨?_, ?_⟩
  · have e1 : followC nm kind cls (groupN l) = followG (groupN l) kind cls 8 (fold nm) [fold nm] [] := by unfold followC; rw [if_pos hm]
    have e2 : followC nm kind cls (groupN ((allOf (groupN l) nm kind cls).flatMap recsOf)) = followG (groupN ((allOf (groupN l) nm kind cls).flatMap recsOf)) kind cls 8 (fold nm) [fold nm] [] := by
      generalize groupN ((allOf (groupN l) nm kind cls).flatMap recsOf) = v; unfold followC; rw [if_pos hm]
    have hc : followG (groupN l) kind cls 8 (fold nm) [fold nm] [] = (0, (followC nm kind cls (groupN l)).2.1, (followC nm kind cls (groupN l)).2.2) := by
      rw [← e1]; exact Prod.ext h (Prod.ext rfl rfl)
    rw [e2, follow_sub hA _ _ _ _ _ _ hc fun s hs p hf => hB s (List.mem_append_left _ hs) p 5 hf]
    exact Prod.ext h.symm (Prod.ext rfl rfl)
  · unfold endsOf
    rw [if_pos h, if_pos h]
    cases hf : findS (groupN l) (followC nm kind cls (groupN l)).2.2 kind cls with
    | none =>
      cases hv : findS (groupN ((allOf (groupN l) nm kind cls).flatMap recsOf)) (followC nm kind cls (groupN l)).2.2 kind cls with
      | none => rfl
      | some s => rw [hA _ _ _ hv] at hf; cases hf
    | some s =>
      rw [hB s (List.mem_append_right _ (by unfold endsOf; rw [if_pos h, hf]; simp)) _ _ hf]
theorem soa_fit {l : List RSet} {nm : Bs} {cls : Nat} {s : RSet} (h : soaN l nm cls = (0, some s)) : s ∈ l ∧ fitS nm cls s = true ∧ s.data.length = 1 := by
  unfold soaN at h
  cases hb : bestGo nm cls l none with
  | none => rw [hb] at h; cases h
  | some t =>
    rw [hb] at h
    simp only at h
    split at h
    · rename_i hd
      cases h
      have go : ∀ (l : List RSet) (o : Option RSet), bestGo nm cls l o = some s → (s ∈ l ∧ fitS nm cls s = true) ∨ o = some s := by
        intro l
        induction l with
        | nil => intro o h; exact .inr h
        | cons x l ih =>
          intro o h
          rw [bestGo] at h
          rcases ih _ h with h1 | h1
          · exact .inl ⟨List.mem_cons_of_mem _ h1.1, h1.2⟩
          · split at h1
            · rename_i hx
              cases h1
              exact .inl ⟨List.mem_cons_self .., (Bool.and_eq_true _ _ ▸ hx).1⟩
            · exact .inr h1
      rcases go l none hb with h1 | h1
      · exact ⟨h1.1, h1.2, hd⟩
      · cases h1
    · cases h
theorem soa_one {nm : Bs} {cls : Nat} {s : RSet} (hf : fitS nm cls s = true) (hd : s.data.length = 1) : soaN [s] nm cls = (0, some s) := by
  unfold soaN
  have : bestGo nm cls [s] none = some s := by
    rw [bestGo, hf]; rfl
  rw [this]
  simp only [hd, if_true]
theorem one_back {l : List Rec} {s : RSet} (hs : IsSet l s) : groupN ([s].flatMap recsOf) = [s] :=
  (group_eq (sets_back (l := l) (M := [s]) (fun x hx => by rw [List.mem_singleton.1 hx]; exact hs) (List.pairwise_singleton ..)) (List.pairwise_singleton ..)).symm

/-! ### What a verdict is -/
theorem verdG_err {g h : List RSet} {nm : Bs} {kind cls code : Nat} (he : (verdG g h nm kind cls code).1 ≠ 0) : (verdG g h nm kind cls code).2 = (noVerd, 0) := by
  unfold verdG at he ⊢
  split at he
  · rename_i h1
    rw [if_pos h1]
    split at he
    · rename_i h2; rw [if_pos h2]
    · rename_i h2
      rw [if_neg h2]
      split at he
      · rename_i h3; rw [if_pos h3]
      · rename_i h3
        rw [if_neg h3]
        split at he
        · exact absurd rfl he
        · rename_i h4
          rw [if_neg h4]
          split at he
          · rename_i h5; rw [if_pos h5]
          · split at he <;> exact absurd rfl he
  · rename_i h1; rw [if_neg h1]
theorem verdG_cases {g h : List RSet} {nm : Bs} {kind cls code : Nat} (h0 : (verdG g h nm kind cls code).1 = 0) :
    ∃ (so : Option RSet) (t : Nat), verdG g h nm kind cls code = (0, ⟨code, (allOf g nm kind cls).map zeroT, (so.map zeroT).toList⟩, t) ∧ mayB nm = true ∧ (followC nm kind cls g).1 = 0 ∧ (code = 0 ∨ code = 3) ∧ t ≤ leastT (allOf g nm kind cls) 2147483647 ∧
      (endsOf (followC nm kind cls g) kind cls g ≠ [] → code = 0 ∧ so = none) ∧ (endsOf (followC nm kind cls g) kind cls g = [] → soaN h (followC nm kind cls g).2.2 cls = (0, so)) := by
  unfold verdG at h0 ⊢
  unfold allOf
  split at h0
  · rename_i h1
    rw [if_pos h1]
    split at h0
    · rename_i h2; exact absurd h0 h2
    · rename_i h2
      rw [if_neg h2]
      have h2' : (followC nm kind cls g).1 = 0 := Classical.not_not.1 h2
      split at h0
      · simp at h0
      · rename_i h3
        rw [if_neg h3]
        split at h0
        · rename_i h4
          rw [if_pos h4]
          refine ⟨none, _, rfl, h1.1, h2', h1.2, Nat.le_refl _, fun _ => ⟨h1.2.resolve_right fun e => h3 ⟨e, h4⟩, rfl⟩, fun e => absurd e h4⟩
        · rename_i h4
          rw [if_neg h4]
          have h4' : endsOf (followC nm kind cls g) kind cls g = [] := Classical.not_not.1 h4
          rw [h4', List.append_nil]
          split at h0
          · rename_i h5; exact absurd h0 h5
          · rename_i h5
            rw [if_neg h5]
            have h5' : (soaN h (followC nm kind cls g).2.2 cls).1 = 0 := Classical.not_not.1 h5
            cases hs : (soaN h (followC nm kind cls g).2.2 cls).2 with
            | none => exact ⟨none, _, rfl, h1.1, h2', h1.2, Nat.zero_le _, fun e => absurd rfl e, fun _ => Prod.ext h5' hs⟩
            | some s => exact ⟨some s, _, rfl, h1.1, h2', h1.2, Nat.min_le_left .., fun e => absurd rfl e, fun _ => Prod.ext h5' hs⟩
  · simp at h0
theorem verd_time {g h : List RSet} {f : RSet → RSet} (hf : Ttl f) (hle : ∀ s ∈ g, (f s).ttl ≤ s.ttl) (nm : Bs) (kind cls code : Nat) : (verdG (g.map f) h nm kind cls code).2.2 ≤ (verdG g h nm kind cls code).2.2 := by
  have e1 := followC_ttl hf g nm kind cls
  have e2 := endsOf_ttl hf g (followC nm kind cls g) (followC nm kind cls (g.map f)) kind cls (by rw [e1]) (by rw [e1])
  have hm := (all_mem g nm kind cls).2
  have hm2 := (followC_mem nm kind cls g).2
  unfold verdG
  rw [e2]
  simp only [e1]
  have hne : (endsOf (followC nm kind cls g) kind cls g).map f ≠ [] ↔ endsOf (followC nm kind cls g) kind cls g ≠ [] := by simp
  simp only [hne]
  split
  · split
    · exact Nat.le_refl _
    · split
      · exact Nat.le_refl _
      · split
        · simp only
          rw [← List.map_append]
          exact leastT_mono _ _ _ (Nat.le_refl _) fun s hs => hle s (hm s hs)
        · split
          · exact Nat.le_refl _
          · cases (soaN h (followC nm kind cls g).2.2 cls).2 with
            | none => exact Nat.le_refl _
            | some s =>
              have := leastT_mono (f := f) (followC nm kind cls g).2.1 2147483647 2147483647 (Nat.le_refl _) fun s hs => hle s (hm2 s hs)
              simp only
              omega
  · exact Nat.le_refl _
/-- A lowered TTL. -/
theorem least_low {l : List Rec} {k t : Nat} (hk : k < l.length) (ht : timeN t ≤ timeN l[k].ttl) {s : RSet} (hs : IsSet l s) : leastN (l.set k (reTtl l[k] t)) s ≤ s.ttl := by
  obtain ⟨r, hr, hkey, e⟩ := hs.at'
  rw [e]
  obtain ⟨-, h2, -⟩ := least_fold s (l.set k (reTtl l[k] t)) 2147483647
  obtain ⟨j, hj, rfl⟩ := List.mem_iff_getElem.1 hr
  by_cases hjk : j = k
  · subst hjk
    exact Nat.le_trans (h2 _ ((mem_set_iff hk t _).2 (.inl rfl)) ((reTtl_key _ _ _).2 hkey)) ht
  · exact h2 _ ((mem_set_iff hk t _).2 (.inr ⟨j, hj, hjk, rfl⟩)) hkey
theorem verd_low {l : List Rec} (h : List RSet) {k t : Nat} (hk : k < l.length) (ht : timeN t ≤ timeN l[k].ttl) (nm : Bs) (kind cls code : Nat) :
    (verdG (groupN (l.set k (reTtl l[k] t))) h nm kind cls code).1 = (verdG (groupN l) h nm kind cls code).1 ∧ (verdG (groupN (l.set k (reTtl l[k] t))) h nm kind cls code).2.1 = (verdG (groupN l) h nm kind cls code).2.1 ∧
    (verdG (groupN (l.set k (reTtl l[k] t))) h nm kind cls code).2.2 ≤ (verdG (groupN l) h nm kind cls code).2.2 := by
  have hT : Ttl fun s : RSet => { s with ttl := leastN (l.set k (reTtl l[k] t)) s } := fun _ => rfl
  rw [group_ttl hk]
  have h1 := verdG_ttl hT (fun _ => rfl : Ttl id) (groupN l) h nm kind cls code
  rw [List.map_id] at h1
  exact ⟨h1.1, h1.2, verd_time hT (fun s hs => least_low hk ht ((group_mem l s).1 hs)) nm kind cls code⟩
/-- The time is at most each TTL of the sets. -/
theorem verd_le {l : List Rec} {h : List RSet} {nm : Bs} {kind cls code : Nat} (h0 : (verdG (groupN l) h nm kind cls code).1 = 0) : (verdG (groupN l) h nm kind cls code).2.2 ≤ 2147483647 ∧
    ∀ s ∈ (verdG (groupN l) h nm kind cls code).2.1.sets, ∃ x, findS (groupN l) s.name s.kind s.cls = some x ∧ (verdG (groupN l) h nm kind cls code).2.2 ≤ x.ttl := by
  obtain ⟨so, t, e, -, -, -, ht, -, -⟩ := verdG_cases h0
  rw [e]
  obtain ⟨h1, h2⟩ := leastT_le (allOf (groupN l) nm kind cls) 2147483647
  refine ⟨Nat.le_trans ht h1, fun s hs => ?_⟩
  obtain ⟨x, hx, rfl⟩ := List.mem_map.1 hs
  refine ⟨x, group_isS ((all_mem _ _ _ _).2 x hx) ?_, Nat.le_trans ht (h2 x hx)⟩
  have hg := ((group_mem l x).1 ((all_mem _ _ _ _).2 x hx)).good
  unfold isS sameB zeroT
  simp [hg.may]
theorem all_zero (g : List RSet) (nm : Bs) (kind cls : Nat) : allOf (g.map zeroT) nm kind cls = (allOf g nm kind cls).map zeroT := by
  unfold allOf
  rw [List.map_append, endsOf_ttl ttl_zero g (followC nm kind cls g) (followC nm kind cls (g.map zeroT)) kind cls (by rw [followC_ttl ttl_zero]) (by rw [followC_ttl ttl_zero]), followC_ttl ttl_zero]
theorem zero_zero (l : List RSet) : (l.map zeroT).map zeroT = l.map zeroT := by rw [List.map_map]; rfl
/-- What is answered by a verdict has that verdict. -/
theorem parts_back {ans auth : List Rec} {nm : Bs} {kind cls code : Nat} (h0 : (verdN nm kind cls code ans auth).1 = 0) :
    (verdN nm kind cls code ((verdN nm kind cls code ans auth).2.1.sets.flatMap recsOf) ((verdN nm kind cls code ans auth).2.1.soa.flatMap recsOf)).1 = 0 ∧
    (verdN nm kind cls code ((verdN nm kind cls code ans auth).2.1.sets.flatMap recsOf) ((verdN nm kind cls code ans auth).2.1.soa.flatMap recsOf)).2.1 = (verdN nm kind cls code ans auth).2.1 := by
  unfold verdN at h0 ⊢
  obtain ⟨so, t, e, hm, hf, hc, -, hx, hn⟩ := verdG_cases h0
  rw [e]
  simp only
  have hz : (allOf (groupN ans) nm kind cls).map zeroT = allOf (groupN (ans.map fun r => reTtl r 0)) nm kind cls := by rw [← group_zero, all_zero]
  have hf0 : followC nm kind cls (groupN (ans.map fun r => reTtl r 0)) = (0, (followC nm kind cls (groupN ans)).2.1.map zeroT, (followC nm kind cls (groupN ans)).2.2) := by
    rw [← group_zero, followC_ttl ttl_zero, hf]
  have he0 : endsOf (followC nm kind cls (groupN (ans.map fun r => reTtl r 0))) kind cls (groupN (ans.map fun r => reTtl r 0)) = (endsOf (followC nm kind cls (groupN ans)) kind cls (groupN ans)).map zeroT := by
    rw [hf0, ← group_zero]
    exact endsOf_ttl ttl_zero _ _ _ _ _ hf.symm rfl
  obtain ⟨b1, b2⟩ := follow_back (l := ans.map fun r => reTtl r 0) (nm := nm) (kind := kind) (cls := cls) (by rw [hf0])
  rw [hz]
  generalize groupN ((allOf (groupN (ans.map fun r => reTtl r 0)) nm kind cls).flatMap recsOf) = v at *
  have ha : allOf (groupN (ans.map fun r => reTtl r 0)) nm kind cls = ((followC nm kind cls (groupN ans)).2.1 ++ endsOf (followC nm kind cls (groupN ans)) kind cls (groupN ans)).map zeroT := by
    unfold allOf; rw [hf0, ← hf0, he0, List.map_append, hf0]
  rw [ha]
  unfold verdG
  rw [b1, b2, he0, hf0]
  simp only
  rw [if_pos ⟨hm, hc⟩, if_neg (by simp)]
  by_cases hne : endsOf (followC nm kind cls (groupN ans)) kind cls (groupN ans) = []
  · have hs := hn hne
    rw [hne]
    simp only [List.map_nil, List.append_nil]
    rw [if_neg (by simp), if_neg (by simp)]
    cases so with
    | none =>
      show (if (soaN (groupN []) _ cls).1 ≠ 0 then _ else _ : Nat × Verd × Nat).1 = 0 ∧ _
      have e0 : soaN (groupN []) (followC nm kind cls (groupN ans)).2.2 cls = (0, none) := rfl
      simp only [Option.map_none, Option.toList_none, List.flatMap_nil, e0, ne_eq, not_true_eq_false, if_false, zero_zero, and_self]
    | some s =>
      obtain ⟨f1, f2, f3⟩ := soa_fit hs
      have hi : IsSet (auth.map fun r => reTtl r 0) (zeroT s) := by
        rw [← group_mem, ← group_zero]; exact List.mem_map_of_mem f1
      have e0 : soaN (groupN ([zeroT s].flatMap recsOf)) (followC nm kind cls (groupN ans)).2.2 cls = (0, some (zeroT s)) := by
        rw [one_back hi]; exact soa_one (by rw [fitS_ttl ttl_zero]; exact f2) f3
      simp only [Option.map_some, Option.toList_some, e0, ne_eq, not_true_eq_false, if_false, zero_zero]
      exact ⟨trivial, rfl⟩
  · obtain ⟨hc0, rfl⟩ := hx hne
    rw [if_neg (by rw [hc0]; simp), if_pos (by simpa using hne)]
    simp only [Option.map_none, Option.toList_none, List.map_append, zero_zero, and_self]

/-! ### Keys that are plain -/
theorem keyOk_of {l : List Rec} (hl : RecsS l) {s : RSet} (hs : s ∈ groupN l) : KeyOk (zeroT s) := by
  have h := (group_mem l s).1 hs
  obtain ⟨r, hr, hk, -⟩ := h.at'
  have hb := hl.each r hr
  have hll := hl.len
  have hd := (group_len l).2 s hs
  refine ⟨h.good.may, ?_, ?_, rfl, ?_, fun d hdm => ?_⟩
  · show s.kind < 65536; rw [← hk.2.2.1]; exact hb.2.1
  · show s.cls < 65536; rw [← hk.2.2.2]; exact hb.2.2.1
  · show s.data.length < 65536; omega
  · obtain ⟨q, hq, hqk, rfl⟩ := (h.data d).1 hdm
    have := dfold_le (rmay_data hqk.1)
    have := (hl.each q hq).2.2.2
    omega
theorem verdOk_of {ans auth : List Rec} {nm : Bs} {kind cls code : Nat} (h1 : RecsS ans) (h2 : RecsS auth) (h0 : (verdN nm kind cls code ans auth).1 = 0) : VerdOk (verdN nm kind cls code ans auth).2.1 := by
  unfold verdN at h0 ⊢
  obtain ⟨so, t, e, hm, hf, hc, -, hx, hn⟩ := verdG_cases h0
  rw [e]
  have hl := (all_mem (groupN ans) nm kind cls)
  refine ⟨by simp only; omega, by simp only [List.length_map]; omega, by cases so <;> simp, fun s hs => ?_⟩
  rcases List.mem_append.1 hs with hs | hs
  · obtain ⟨x, hx, rfl⟩ := List.mem_map.1 hs
    exact keyOk_of h1 (hl.2 x hx)
  · cases so with
    | none => cases hs
    | some x =>
      rw [show s = zeroT x by simpa using hs]
      by_cases hne : endsOf (followC nm kind cls (groupN ans)) kind cls (groupN ans) = []
      · exact keyOk_of h2 (soa_fit (hn hne)).1
      · cases (hx hne).2
end Go.Proofs.YtcelgjabccgnmaaGreatDoor
