/-
  Memory: slices that are read, slices that the call itself owns, append, loads and stores, as rules. Nothing is claimed here.
-/
import Derived.Test.YtpoebplhemimmaaGreatDoorLog
import Derived.BigFrame
import Derived.Laws.Externs
import Derived.Lib.AppendStr
namespace Go.Proofs.YtpoebplhemimmaaGreatDoor
variable {Ds : List Deferred}
open Go.RowKit
set_option linter.unusedSimpArgs false
set_option linter.unusedVariables false

/-- A type's cells and bytes. -/
def TI (P : Program) (e : TypeId) (size bytes : Nat) : Prop := ∃ i z, P.info? e = some i ∧ i.zero = some z ∧ i.size = size ∧ i.bytes = bytes ∧ z.cells.size = size

theorem ti_of {P : Program} {e : TypeId} {size bytes : Nat} (h : (P.info? e).map (fun i => (i.size, i.bytes, i.zero.map fun z => z.cells.size)) = some (size, bytes, some size)) : TI P e size bytes := by
  obtain ⟨i, hi, h⟩ := Option.map_eq_some_iff.1 h
  simp only [Prod.mk.injEq] at h
  obtain ⟨h1, h2, h3⟩ := h
  obtain ⟨z, hz, h4⟩ := Option.map_eq_some_iff.1 h3
  exact ⟨i, z, hi, hz, h1, h2, h4⟩

/-! ### Slices that are read -/

/-- In the world w the slice v, of n elements of 'size' cells, holds the cells xs. -/
def RSl (w : World) (size : Nat) (v : Value) (n : Nat) (xs : List Value) : Prop :=
  xs.length = n * size ∧ ∃ a cap, v = .slice a n cap ∧ n ≤ cap ∧ cap ≤ maxLen ∧ ((True ∧ cap = 0 ∧ n = 0) ∨ ∃ b off, a = some ⟨b, off, none⟩ ∧ ∀ j u, xs[j]? = some u → w.cell? ⟨b, off + j, none⟩ = some u)

theorem RSl.ext {w w' : World} {size n : Nat} {v : Value} {xs : List Value} (h : RSl w size v n xs) (he : Ext w w') : RSl w' size v n xs := by
  obtain ⟨h1, a, cap, h2, h3, h4, h5⟩ := h
  refine ⟨h1, a, cap, h2, h3, h4, h5.imp id ?_⟩
  rintro ⟨b, off, hb, hc⟩
  exact ⟨b, off, hb, fun j u hu => he.cell (hc j u hu)⟩
theorem RSl.hp {w0 w : World} {H : List (Nat × Obj)} {size n : Nat} {v : Value} {xs : List Value} (h : RSl w0 size v n xs) (hH : Hp w0 w H) : RSl w size v n xs := h.ext hH.below

theorem RSl.nil (w : World) (size : Nat) : RSl w size (.slice none 0 0) 0 [] := ⟨by simp, none, 0, rfl, Nat.le_refl _, Nat.zero_le _, .inl ⟨trivial, rfl, rfl⟩⟩
/-- A slice of no room may have any address. -/
theorem RSl.bare (w : World) (size : Nat) (ad : Option Addr) : RSl w size (.slice ad 0 0) 0 [] := ⟨by simp, ad, 0, rfl, Nat.le_refl _, Nat.zero_le _, .inl ⟨trivial, rfl, rfl⟩⟩

/-! ### Slices of one's own -/

/-- v, of n elements, owns the blocks B (none, if it is nil) and holds the cells xs. -/
def Sl (e : TypeId) (size : Nat) (B : List (Nat × Obj)) (v : Value) (n : Nat) (xs : List Value) : Prop :=
  xs.length = n * size ∧ ((v = .slice none 0 0 ∧ n = 0 ∧ B = []) ∨
    ∃ g cap cur, v = .slice (some ⟨g, 0, none⟩) n cap ∧ B = [(g, .cells cur e (0, 0))] ∧ n ≤ cap ∧ cap ≤ maxLen ∧ cur.size = cap * size ∧ cur.toList.take (n * size) = xs)

theorem Sl.nil (e : TypeId) (size : Nat) : Sl e size [] (.slice none 0 0) 0 [] := ⟨by simp, .inl ⟨rfl, rfl, rfl⟩⟩
theorem Sl.len {e : TypeId} {size : Nat} {B : List (Nat × Obj)} {v : Value} {n : Nat} {xs : List Value} (h : Sl e size B v n xs) : xs.length = n * size := h.1

theorem Sl.shape {e : TypeId} {size : Nat} {B : List (Nat × Obj)} {v : Value} {n : Nat} {xs : List Value} (h : Sl e size B v n xs) : ∃ ad cap, v = .slice ad n cap := by
  rcases h.2 with ⟨hv, h0, _⟩ | ⟨g, cap, cur, hv, _⟩
  · subst h0; exact ⟨_, _, hv⟩
  · exact ⟨_, _, hv⟩
theorem Sl.open {e : TypeId} {size : Nat} {B : List (Nat × Obj)} {v : Value} {n : Nat} {xs : List Value} (h : Sl e size B v n xs) (hn : 0 < n) :
    ∃ g cap cur, v = .slice (some ⟨g, 0, none⟩) n cap ∧ B = [(g, .cells cur e (0, 0))] ∧ n ≤ cap ∧ cap ≤ maxLen ∧ cur.size = cap * size ∧ cur.toList.take (n * size) = xs := by
  rcases h.2 with ⟨_, h0, _⟩ | h
  · omega
  · exact h
theorem take_get {cur : Array Value} {k j : Nat} {xs : List Value} {u : Value} (h : cur.toList.take k = xs) (hj : xs[j]? = some u) : cur[j]? = some u := by
  rw [← h, List.getElem?_take] at hj
  split at hj
  · simpa using hj
  · cases hj
theorem Sl.set {e : TypeId} {size g n cap : Nat} {cur : Array Value} {xs : List Value} (j : Nat) (u : Value) (h1 : xs.length = n * size) (h2 : n ≤ cap) (h3 : cap ≤ maxLen) (h4 : cur.size = cap * size) (h5 : cur.toList.take (n * size) = xs) :
    Sl e size [(g, .cells (cur.setIfInBounds j u) e (0, 0))] (.slice (some ⟨g, 0, none⟩) n cap) n (xs.set j u) :=
  ⟨by simpa using h1, .inr ⟨g, cap, _, rfl, rfl, h2, h3, by simpa using h4, by rw [Array.toList_setIfInBounds, List.take_set, h5]⟩⟩
theorem Sl.one {e : TypeId} {size : Nat} {B : List (Nat × Obj)} {v : Value} {n : Nat} {xs : List Value} (h : Sl e size B v n xs) : v.oneCell' = true := by
  rcases h.2 with ⟨rfl, _⟩ | ⟨g, cap, cur, rfl, _⟩ <;> rfl
theorem Sl.cell {w : World} {g : Nat} {cur : Array Value} {e : TypeId} (h : w.heap[g]? = some (.cells cur e (0, 0))) (j : Nat) : w.cell? ⟨g, j, none⟩ = cur[j]? := cell_of_row w g j cur e (0, 0) h

theorem Sl.owns {w0 w : World} {H B : List (Nat × Obj)} {e : TypeId} {size n : Nat} {v : Value} {xs : List Value} (h : Sl e size B v n xs) (hH : Hp w0 w H) (hB : ∀ p ∈ B, p ∈ H) : w.ownsRow w0.heap.size e size v n xs := by
  obtain ⟨h1, h2⟩ := h
  refine ⟨h1, ?_⟩
  rcases h2 with ⟨rfl, rfl, _⟩ | ⟨g, cap, cur, rfl, rfl, h3, h4, h5, h6⟩
  · exact .inl ⟨rfl, rfl⟩
  · have := hH.own (g, _) (hB _ (List.mem_singleton.2 rfl))
    exact .inr ⟨g, cap, cur, rfl, this.2, this.1, h3, h4, h5, h6⟩
theorem Sl.rsl {w0 w : World} {H B : List (Nat × Obj)} {e : TypeId} {size n : Nat} {v : Value} {xs : List Value} (h : Sl e size B v n xs) (hH : Hp w0 w H) (hB : ∀ p ∈ B, p ∈ H) : RSl w size v n xs := by
  obtain ⟨h1, h2⟩ := h
  refine ⟨h1, ?_⟩
  rcases h2 with ⟨rfl, rfl, _⟩ | ⟨g, cap, cur, rfl, rfl, h3, h4, h5, h6⟩
  · exact ⟨none, 0, rfl, Nat.le_refl _, Nat.zero_le _, .inl ⟨trivial, rfl, rfl⟩⟩
  · refine ⟨_, cap, rfl, h3, h4, .inr ⟨g, 0, rfl, fun j u hu => ?_⟩⟩
    have hg := (hH.own (g, _) (hB _ (List.mem_singleton.2 rfl))).1
    rw [Nat.zero_add, Sl.cell hg j]
    rw [← h6, List.getElem?_take] at hu
    split at hu
    · simpa using hu
    · cases hu

theorem Hp.alloc {w0 w : World} {H : List (Nat × Obj)} (h : Hp w0 w H) (o : Obj) : Hp w0 (w.alloc o) ((w.heap.size, o) :: H) := by
  have hx : Ext w (w.alloc o) := Below.alloc (Below.refl _ _) (Nat.le_refl _) o
  refine ⟨h.below.trans hx, fun p hp => ?_, List.nodup_cons.2 ⟨fun hm => ?_, h.nodup⟩⟩
  · rcases List.mem_cons.1 hp with rfl | hp
    · exact ⟨heap_alloc_new w o, h.below.size⟩
    · exact (h.ext hx).own p hp
  · obtain ⟨p, hp, he⟩ := List.mem_map.1 hm
    have := (Array.getElem?_eq_some_iff.1 (h.own p hp).1).1
    simp only at he
    omega
theorem Hp.drew {w0 w : World} {H : List (Nat × Obj)} (h : Hp w0 w H) : Hp w0 w.drew H := h.ext ⟨rfl, rfl, rfl, Nat.le_refl _, fun _ _ => rfl⟩
theorem Ext.alloc (w : World) (o : Obj) : Ext w (w.alloc o) := Below.alloc (Below.refl _ _) (Nat.le_refl _) o
theorem Ext.drew (w : World) : Ext w w.drew := ⟨rfl, rfl, rfl, Nat.le_refl _, fun _ _ => rfl⟩

/-- One block of one's own is written: what else is there stays. -/
theorem Hp.write {w0 w w' : World} {H : List (Nat × Obj)} {g : Nat} {o o' : Obj} (h : Hp w0 w ((g, o) :: H)) (hw : w'.heap[g]? = some o') (hsz : w'.heap.size = w.heap.size)
    (hos : w'.os = w.os ∧ w'.tape = w.tape ∧ w'.output = w.output) (ho : ∀ k, k ≠ g → w'.heap[k]? = w.heap[k]?) : Hp w0 w' ((g, o') :: H) := by
  obtain ⟨hg, hb⟩ := h.own (g, o) (List.mem_cons_self ..)
  have hn := List.nodup_cons.1 h.nodup
  have hx : Ext w0 w' := Below.trans h.below ⟨hos.1, hos.2.1, hos.2.2, Nat.le_of_eq hsz.symm, fun k hk => ho k (by simp only at hb; omega)⟩
  refine ⟨hx, fun p hp => ?_, List.nodup_cons.2 hn⟩
  rcases List.mem_cons.1 hp with rfl | hp
  · exact ⟨hw, hb⟩
  · have hne : p.1 ≠ g := fun e => hn.1 (List.mem_map.2 ⟨p, hp, e⟩)
    exact ⟨(ho _ hne).trans (h.own p (List.mem_cons_of_mem _ hp)).1, (h.own p (List.mem_cons_of_mem _ hp)).2⟩

theorem Hp.perm {w0 w : World} {H H' : List (Nat × Obj)} (h : Hp w0 w H) (hp : H'.Perm H) : Hp w0 w H' :=
  ⟨h.below, fun p hm => h.own p (hp.mem_iff.1 hm), (hp.map (·.1)).nodup_iff.2 h.nodup⟩
theorem Hp.sub {w0 w : World} {H H' : List (Nat × Obj)} (h : Hp w0 w H) (hs : H'.Sublist H) : Hp w0 w H' :=
  ⟨h.below, fun p hm => h.own p (hs.mem hm), (hs.map (·.1)).nodup h.nodup⟩

theorem Hp.toB {w0 w : World} {x : Nat × Obj} {B H : List (Nat × Obj)} (h : Hp w0 w (x :: (B ++ H))) : Hp w0 w (B ++ x :: H) := h.perm List.perm_middle
theorem Hp.fromB {w0 w : World} {x : Nat × Obj} {B H : List (Nat × Obj)} (h : Hp w0 w (B ++ x :: H)) : Hp w0 w (x :: (B ++ H)) := h.perm List.perm_middle.symm
theorem setRow_hp {w0 w : World} {H : List (Nat × Obj)} {g : Nat} {cur cur' : Array Value} {e : TypeId} (h : Hp w0 w ((g, .cells cur e (0, 0)) :: H)) : Hp w0 (w.setRow g cur') ((g, .cells cur' e (0, 0)) :: H) :=
  h.write (setRow_heap w g cur cur' e (0, 0) (h.own (g, .cells cur e (0, 0)) (List.mem_cons_self ..)).1) (by simp) ⟨rfl, rfl, rfl⟩ fun k hk => setRow_other w g k cur' hk

/-- append to a slice of one's own. -/
theorem append_own {P : Program} {w0 w : World} {H B : List (Nat × Obj)} {t ty e : TypeId} {size bytes n m : Nat} {v x : Value} {xs news : List Value}
    (hH : Hp w0 w (B ++ H)) (hS : Sl e size B v n xs) (ht : P.underlying t = some (.slice e)) (hti : TI P e size bytes) (hx : RSl w size x m news)
    (h1 : ∀ u ∈ news, u.oneCell' = true) (h0 : 0 < bytes) (hb : (n + m) * bytes ≤ 140737488355328) :
    ∃ v' w' B', (Builtin.append_ #[t, t] ty #[v, x]).run P w = .ok v' w' ∧ Hp w0 w' (B' ++ H) ∧ Sl e size B' v' (n + m) (xs ++ news) := by
  obtain ⟨i, z, hi, hz, rfl, rfl, hzs⟩ := hti
  obtain ⟨hl, a, c, rfl, hmc, hcm, hsrc⟩ := hx
  have hle : n + m ≤ (n + m) * i.bytes := Nat.le_mul_of_pos_right _ h0
  have hlen : (xs ++ news).length = (n + m) * i.size := by rw [List.length_append, hS.1, hl, Nat.add_mul]
  have hmax : n + m ≤ maxLen := by unfold maxLen; omega
  rcases hsrc with ⟨-, rfl, rfl⟩ | ⟨b, off, rfl, hsrc⟩
  · have hn : news = [] := List.eq_nil_of_length_eq_zero (by simpa using hl)
    subst hn
    refine ⟨v, w, B, ?_, hH, by simpa using hS⟩
    rcases hS.2 with ⟨rfl, rfl, rfl⟩ | ⟨g, cap, cur, rfl, rfl, hnc, _⟩
    · cases a <;> simp [Builtin.append_, run_underlying ht, sizeOf, typeInfo, hi, Builtin.lenOf, Builtin.firstCells, loadCells, loadCellsFrom]
    · cases a <;> simp [Builtin.append_, run_underlying ht, sizeOf, typeInfo, hi, Builtin.lenOf, Builtin.firstCells, hnc, storeCells, loadCells, loadCellsFrom]
  have hnews : ∀ j u, news[j]? = some u → w.cell? ((⟨b, off, none⟩ : Addr).add j) = some u := fun j u hu => by
    rw [Addr.add_lit]; exact hsrc j u hu
  have fresh : ∀ old, old < n + m → ∃ v' w' B', (Result.ok (Value.slice (some ⟨w.heap.size, 0, none⟩) (n + m) (grownCap w (n + m) old e))
      (w.drew.alloc (.cells (xs.toArray ++ news.toArray ++ Builtin.zeroCells z.cells (grownCap w (n + m) old e - (n + m))) e))) = .ok v' w' ∧ Hp w0 w' (B' ++ H) ∧ Sl e i.size B' v' (n + m) (xs ++ news) := by
    intro old ho
    have hge := grownCap_ge w (n + m) old e
    refine ⟨_, _, [(w.heap.size, _)], rfl, ((hH.sub (List.sublist_append_right B H)).drew).alloc _, hlen, .inr ⟨_, _, _, rfl, rfl, hge, grownCap_le_maxLen w (n + m) old e hmax, ?_, ?_⟩⟩
    · simp only [Array.size_append, List.size_toArray, size_zeroCells, hzs, hS.1, hl, ← Nat.add_mul]
      congr 1; omega
    · simp only [Array.toList_append, List.append_assoc]
      rw [← List.append_assoc, ← hlen]
      exact List.take_left
  rcases hS.2 with ⟨rfl, rfl, rfl⟩ | ⟨g, cap, cur, rfl, rfl, hnc, hcap, hcs, htake⟩
  · have hx : xs = [] := List.eq_nil_of_length_eq_zero (by simpa using hS.1)
    subst hx
    by_cases hm : m = 0
    · subst hm
      have hn : news = [] := List.eq_nil_of_length_eq_zero (by simpa using hl)
      subst hn
      refine ⟨.slice none 0 0, w, [], ?_, hH, Sl.nil e i.size⟩
      simp [Builtin.append_, run_underlying ht, sizeOf, typeInfo, hi, Builtin.lenOf, Builtin.firstCells, loadCells, loadCellsFrom]
    · have hr := run_append_nil (P := P) w t ty e i z ht hi hz ⟨b, off, none⟩ m c news hl hnews (by omega) (by omega) (by simp only [Nat.zero_add] at hb; omega)
      obtain ⟨v', w', B', h2, h3, h4⟩ := fresh 0 (by omega)
      simp only [Nat.zero_add, List.nil_append, Array.empty_append] at h2 h4 ⊢
      exact ⟨v', w', B', hr.trans h2, h3, h4⟩
  · have hg := (hH.own (g, _) (List.mem_append_left _ (List.mem_singleton.2 rfl))).1
    by_cases hroom : n + m ≤ cap
    · have hfit : n * i.size + news.length ≤ cur.size := by rw [hl, hcs, ← Nat.add_mul]; exact Nat.mul_le_mul_right _ hroom
      have hr := run_append_room (P := P) w t ty e i ht hi g n cap cur hg ⟨b, off, none⟩ m c news hl hnews h1 hroom hfit
      refine ⟨_, _, [(g, _)], hr, setRow_hp hH, hlen, .inr ⟨g, cap, _, rfl, rfl, hroom, hcap, ?_, ?_⟩⟩
      · simp only [List.size_toArray, List.length_append, List.length_take, List.length_drop, Array.length_toList]
        omega
      · rw [htake, ← hlen]
        exact List.take_left
    · have holds : ∀ j u, xs[j]? = some u → w.cell? ((⟨g, 0, none⟩ : Addr).add j) = some u := fun j u hu => by
        rw [Addr.add_lit, Nat.zero_add, Sl.cell hg j]
        rw [← htake, List.getElem?_take] at hu
        split at hu
        · simpa using hu
        · cases hu
      have hr := run_append_grow (P := P) w t ty e i z ht hi hz ⟨g, 0, none⟩ n cap xs hS.1 holds ⟨b, off, none⟩ m c news hl hnews (by omega) (by omega) (growslice_fits (by omega) hb)
      obtain ⟨v', w', B', h2, h3, h4⟩ := fresh cap (by omega)
      exact ⟨v', w', B', hr.trans h2, h3, h4⟩

/-- A literal that has just been made, read. -/
theorem rsl_lit {w0 w : World} {H : List (Nat × Obj)} {g n size : Nat} {cs : Array Value} {e : TypeId} (hH : Hp w0 w ((g, .cells cs e (0, 0)) :: H)) (hs : cs.size = n * size) (hn : n ≤ 1000) :
    RSl w size (.slice (some ⟨g, 0, none⟩) n n) n cs.toList := by
  refine ⟨by simpa using hs, _, n, rfl, Nat.le_refl _, by unfold maxLen; omega, .inr ⟨g, 0, rfl, fun j u hu => ?_⟩⟩
  rw [Nat.zero_add, Sl.cell (hH.own _ (List.mem_cons_self ..)).1 j]; simpa using hu

/-- The cells of texts. -/
def strV (l : List (List UInt8)) : List Value := l.map fun b => .string (mk b)
theorem strV_length (l : List (List UInt8)) : (strV l).length = l.length := by simp [strV]
theorem strV_snoc (l : List (List UInt8)) (x : List UInt8) : strV l ++ [.string (mk x)] = strV (l ++ [x]) := by simp [strV]
theorem strV_one (l : List (List UInt8)) : ∀ u ∈ strV l, u.oneCell' = true := by
  intro u hu; obtain ⟨b, _, rfl⟩ := List.mem_map.1 hu; rfl
theorem one_of {u : Value} (h : u.oneCell' = true) : ∀ x ∈ [u], x.oneCell' = true := by
  intro x hx; rw [List.mem_singleton.1 hx]; exact h
theorem strV_get {l : List (List UInt8)} {i : Nat} (h : i < l.length) : (strV l)[i]? = some (.string (mk (l.getD i []))) := by
  simp [strV, h]

section
variable {P : Program} {ops : Array Oper} {Q : Exit → Act → World → Prop} {rest : List Oper} {o : Oper} {a : Act} {w w0 : World} {N dd : Nat} {L : List (Nat × Value)} {H B : List (Nat × Obj)}

theorem foldl_set (off : Nat) : ∀ (l : List Value) (k : Nat) (arr : Array Value), ((l.zipIdx k).foldl (fun (cs : Array Value) (p : Value × Nat) => cs.setIfInBounds (off + p.2) p.1) arr).size = arr.size ∧
    ∀ i, ((l.zipIdx k).foldl (fun (cs : Array Value) (p : Value × Nat) => cs.setIfInBounds (off + p.2) p.1) arr)[i]? = if off + k ≤ i ∧ i < off + k + l.length ∧ i < arr.size then l[i - off - k]? else arr[i]?
  | [], k, arr => ⟨rfl, fun i => by simp; omega⟩
  | x :: l, k, arr => by
    obtain ⟨h1, h2⟩ := foldl_set off l (k + 1) (arr.setIfInBounds (off + k) x)
    refine ⟨by simpa using h1, fun i => ?_⟩
    simp only [List.zipIdx_cons, List.foldl_cons]
    rw [h2 i]
    simp only [Array.size_setIfInBounds, Array.getElem?_setIfInBounds, List.length_cons]
    by_cases h : i = off + k
    · subst h
      rw [if_neg (by omega)]
      by_cases hlt : off + k < arr.size
      · rw [if_pos rfl, if_pos hlt, if_pos (by omega)]; simp
      · rw [if_pos rfl, if_neg hlt, if_neg (by omega)]; simp; omega
    · by_cases hc : off + (k + 1) ≤ i ∧ i < off + (k + 1) + l.length ∧ i < arr.size
      · rw [if_pos hc, if_pos (by omega), show i - off - k = (i - off - (k + 1)) + 1 by omega]; simp
      · rw [if_neg hc, if_neg (by omega), if_neg (by omega)]

theorem fill_one (size : Nat) (z : Array Value) (u : Value) (hu : u.cells.size = size) (hz : z.size = size) :
    Instr.fill (fun j => some (j * size, size)) ((Array.range (1 * size)).map (z[· % z.size]!)) [(0, u)] = some u.cells := by
  unfold Instr.fill
  simp only [hu, Nat.zero_mul, Nat.zero_add, Array.size_map, Array.size_range, Nat.one_mul, ne_eq, not_true_eq_false, decide_false, Bool.false_or, gt_iff_lt, Nat.lt_irrefl, Bool.false_eq_true, if_false]
  unfold Instr.fill
  congr 1
  rw [← Array.foldl_toList, Array.toList_zipIdx]
  have hf := foldl_set 0 u.cells.toList 0 ((Array.range size).map (z[· % z.size]!))
  simp only [Nat.zero_add] at hf
  apply Array.ext_getElem?
  intro i
  refine (hf.2 i).trans ?_
  simp only [Array.size_map, Array.size_range, Array.length_toList, hu, Nat.sub_zero, Nat.zero_le, true_and, and_self]
  by_cases h : i < size
  · rw [if_pos h]; simp
  · rw [if_neg h, Array.getElem?_eq_none (by simp; omega), Array.getElem?_eq_none (by omega)]

theorem SZ1_of {e bytes : Nat} (h : TI P e 1 bytes) (w : World) : (sizeOf e).run P w = .ok 1 w := by
  obtain ⟨i, z, hi, _, h1, _⟩ := h
  simp [sizeOf, typeInfo, hi, h1]
theorem cells_one {u : Value} (h : u.oneCell' = true) : u.cells = #[u] := by cases u <;> first | rfl | simp [Value.oneCell'] at h
theorem cells_agg (cs : Array Value) : (Value.agg cs).cells = cs := rfl

/-- A literal's parts. -/
def evp (L : List (Nat × Value)) : List (Nat × Operand) → Option (List (Nat × Value))
  | [] => some []
  | (i, x) :: xs => match ev L x with
    | some v => match evp L xs with
      | some vs => some ((i, v) :: vs)
      | none => none
    | none => none
theorem FrD.evp (h : FrD Ds N L a) : ∀ {xs : List (Nat × Operand)} {vs : List (Nat × Value)}, Proofs.YtpoebplhemimmaaGreatDoor.evp L xs = some vs → (xs.map fun p => (p.1, a.eval p.2)) = vs
  | [], vs, hx => by simpa [Proofs.YtpoebplhemimmaaGreatDoor.evp] using hx
  | (i, x) :: xs, vs, hx => by
    unfold Proofs.YtpoebplhemimmaaGreatDoor.evp at hx
    split at hx
    · rename_i v hv
      split at hx
      · rename_i us hus
        cases hx
        rw [List.map_cons, h.evp hus]
        simp only [h.ev hv]
      · cases hx
    · cases hx
theorem r_build (hF : FrD Ds N L a) {v : Value} {t : TypeId} {parts : Array (Nat × Operand)} {us : List (Nat × Value)} (ho : o.op = .build t parts) (hx : evp L parts.toList = some us) (hr : (Instr.build t us.toArray).run P w = .ok v w) : Does P o a w v w := by
  have hm : (parts.map fun p => (p.1, a.eval p.2)) = us.toArray := by
    apply Array.ext'; simpa using hF.evp hx
  left; unfold execOp
  simp only [ho, Sem.run_bind]
  rw [show (parts.map fun (x : Nat × Operand) => match x with | (i, x) => (i, a.eval x)) = us.toArray from hm, hr]
  simp [Result.andThen]

theorem fill_all (size : Nat) : ∀ (us : List Value) (k : Nat) (done rest : List Value), done.length = k * size → rest.length = us.length * size → (∀ u ∈ us, u.cells.size = size) →
    Instr.fill (fun j => some (j * size, size)) (done ++ rest).toArray ((us.zipIdx k).map fun p => (p.2, p.1)) = some (done ++ us.flatMap (·.cells.toList)).toArray
  | [], k, done, rest, _, hr, _ => by
    have : rest = [] := List.eq_nil_of_length_eq_zero (by simpa using hr)
    subst this; simp [Instr.fill]
  | u :: us, k, done, rest, hd, hr, hu => by
    have hu0 := hu u (List.mem_cons_self ..)
    have hlen : rest.length = size + us.length * size := by rw [hr, List.length_cons, Nat.add_mul]; omega
    simp only [List.zipIdx_cons, List.map_cons]
    unfold Instr.fill
    simp only [hu0, ne_eq, not_true_eq_false, decide_false, Bool.false_or]
    rw [if_neg (by simp [hd, hlen])]
    have hrow : (u.cells.zipIdx.foldl (fun (cs : Array Value) (p : Value × Nat) => cs.setIfInBounds (k * size + p.2) p.1) (done ++ rest).toArray) = ((done ++ u.cells.toList) ++ rest.drop size).toArray := by
      rw [← Array.foldl_toList, Array.toList_zipIdx]
      have hf := foldl_set (k * size) u.cells.toList 0 (done ++ rest).toArray
      simp only [Nat.add_zero] at hf
      apply Array.ext_getElem?
      intro i
      refine (hf.2 i).trans ?_
      simp only [List.size_toArray, List.length_append, Array.length_toList, hu0, List.getElem?_toArray]
      by_cases h1 : k * size ≤ i ∧ i < k * size + size ∧ i < done.length + rest.length
      · rw [if_pos h1, List.getElem?_append_left (by simp [hu0]; omega), List.getElem?_append_right (by omega)]
        congr 1; omega
      · rw [if_neg h1]
        by_cases h2 : i < k * size
        · rw [List.getElem?_append_left (by omega), List.getElem?_append_left (by simp [hu0]; omega), List.getElem?_append_left (by omega)]
        · rw [List.getElem?_append_right (by omega), List.getElem?_append_right (by simp [hu0]; omega), List.getElem?_drop]
          congr 1; simp [hu0]; omega
    rw [show (fun (cs : Array Value) (x : Value × Nat) => match x with | (c, j) => cs.setIfInBounds (k * size + j) c) = (fun (cs : Array Value) (p : Value × Nat) => cs.setIfInBounds (k * size + p.2) p.1) from rfl, hrow]
    rw [fill_all size us (k + 1) (done ++ u.cells.toList) (rest.drop size) (by simp [hu0, hd, Nat.add_mul]) (by simp [hlen]) (fun x hx => hu x (List.mem_cons_of_mem _ hx))]
    simp

/-- A literal of several elements, all of them told. -/
theorem ls_buildN {parts : Array (Nat × Operand)} {t e : TypeId} {size bytes n : Nat} {us : List Value} (hF : FrD Ds N L a) (hH : Hp w0 w H) (hg : o.guard = none) (hdst : o.dst = some dd) (hd : Nat.blt dd N = true) (ho : o.op = .buildSlice t n parts)
    (hx : evp L parts.toList = some ((us.zipIdx 0).map fun p => (p.2, p.1))) (hn : us.length = n)
    (ht : P.underlying t = some (.slice e)) (hti : TI P e size bytes) (hu : ∀ u ∈ us, u.cells.size = size) (h24 : 0 < size ∧ n * size ≤ 16777216)
    (k : ∀ a' w' g, Hp w0 w' ((g, .cells (us.flatMap (·.cells.toList)).toArray e (0, 0)) :: H) → Ext w w' → FrD Ds N ((dd, .slice (some ⟨g, 0, none⟩) n n) :: L) a' → wpList P ops Q rest a' w') : wpList P ops Q (o :: rest) a w := by
  obtain ⟨i, z, hi, hz, rfl, rfl, hzs⟩ := hti
  refine ls hF hg hdst hd (v := .slice (some ⟨w.heap.size, 0, none⟩) n n) (w' := w.alloc (.cells (us.flatMap (·.cells.toList)).toArray e (0, 0))) (.inl ?_) fun a' hF' => k a' _ _ (hH.alloc _) (Ext.alloc _ _) hF'
  have hm : (parts.map fun p => (p.1, a.eval p.2)) = ((us.zipIdx 0).map fun p => (p.2, p.1)).toArray := by
    apply Array.ext'; simpa using hF.evp hx
  have h1 : ¬ 16777216 < n * i.size := by omega
  unfold execOp
  simp only [ho, Sem.run_bind]
  rw [show (parts.map fun (x : Nat × Operand) => match x with | (i, x) => (i, a.eval x)) = ((us.zipIdx 0).map fun p => (p.2, p.1)).toArray from hm]
  by_cases h0 : n = 0
  · subst h0
    have : us = [] := List.eq_nil_of_length_eq_zero hn
    subst this
    simp [Instr.buildSlice, run_underlying ht, sizeOf, typeInfo, hi, Instr.fill, newRow]
    congr 2
    apply Array.eq_empty_of_size_eq_zero
    simp
  · have h2 : ¬ n * i.size = 0 := by
      intro e; rcases Nat.mul_eq_zero.1 e with e | e <;> omega
    have hfill := fill_all i.size us 0 [] ((Array.range (n * i.size)).map (z.cells[· % z.cells.size]!)).toList (by simp) (by simp [hn]) hu
    simp only [List.nil_append, Array.toArray_toList] at hfill
    simp only [Instr.buildSlice, Sem.run_bind, run_underlying ht, Result.andThen_ok, sizeOf, typeInfo, hi, zeroValue, Sem.run_pure, h1, h2, if_false, hz, hfill]
    simp [Instr.buildSlice, run_underlying ht, sizeOf, typeInfo, zeroValue, hi, hz, h1, h2, hfill, newRow]

/-- A literal of one element. -/
theorem ls_build1 {x : Operand} {t e : TypeId} {size bytes : Nat} {u : Value} (hF : FrD Ds N L a) (hH : Hp w0 w H) (hg : o.guard = none) (hdst : o.dst = some dd) (hd : Nat.blt dd N = true) (ho : o.op = .buildSlice t 1 #[(0, x)]) (hx : ev L x = some u)
    (ht : P.underlying t = some (.slice e)) (hti : TI P e size bytes) (hu : u.cells.size = size) (h24 : 0 < size ∧ size ≤ 1000)
    (k : ∀ a' w' g, Hp w0 w' ((g, .cells u.cells e (0, 0)) :: H) → Ext w w' → FrD Ds N ((dd, .slice (some ⟨g, 0, none⟩) 1 1) :: L) a' → wpList P ops Q rest a' w') : wpList P ops Q (o :: rest) a w := by
  obtain ⟨i, z, hi, hz, rfl, rfl, hzs⟩ := hti
  refine ls hF hg hdst hd (v := .slice (some ⟨w.heap.size, 0, none⟩) 1 1) (w' := w.alloc (.cells u.cells e (0, 0))) (.inl ?_) fun a' hF' => k a' _ _ (hH.alloc _) (Ext.alloc _ _) hF'
  have hfill := fill_one i.size z.cells u hu hzs
  rw [Nat.one_mul] at hfill
  have h1 : ¬ 16777216 < i.size := by omega
  have h2 : ¬ i.size = 0 := by omega
  unfold execOp
  simp only [ho, Instr.buildSlice, hF.ev hx, List.map_toArray, List.map_cons, List.map_nil]
  simp [run_underlying ht, sizeOf, typeInfo, zeroValue, hi, hz, h1, h2, hfill, newRow]

/-- append to a slice of one's own. -/
theorem ls_append {s x : Operand} {t e : TypeId} {size bytes n m : Nat} {v u : Value} {xs news : List Value} (hF : FrD Ds N L a) (hH : Hp w0 w (B ++ H)) (hg : o.guard = none) (hdst : o.dst = some dd) (hd : Nat.blt dd N = true)
    (ho : o.op = .call { callee := .builtin .append, args := #[s, x], argTypes := #[t, t] }) (hs : ev L s = some v) (hx : ev L x = some u)
    (ht : P.underlying t = some (.slice e)) (hti : TI P e size bytes) (hS : Sl e size B v n xs) (hR : RSl w size u m news)
    (h1 : ∀ u ∈ news, u.oneCell' = true) (h0 : 0 < bytes) (hb : (n + m) * bytes ≤ 140737488355328)
    (k : ∀ a' v' w' B', Hp w0 w' (B' ++ H) → Sl e size B' v' (n + m) (xs ++ news) → FrD Ds N ((dd, v') :: L) a' → wpList P ops Q rest a' w') : wpList P ops Q (o :: rest) a w := by
  obtain ⟨v', w', B', hr, h2, h3⟩ := append_own (ty := o.type) hH hS ht hti hR h1 h0 hb
  refine ls hF hg hdst hd (v := v') (w' := w') (.inl ?_) fun a' hF' => k a' v' w' B' h2 h3 hF'
  rw [exec_builtin hF ho (ev2 hs hx)]
  rw [BigFrame.builtin_append]
  simp [hr]

theorem ls_append0 {s x : Operand} {t e : TypeId} {size bytes n m : Nat} {v u : Value} {xs news : List Value} (hF : FrD Ds N L a) (hH : Hp w0 w B) (hg : o.guard = none) (hdst : o.dst = some dd) (hd : Nat.blt dd N = true)
    (ho : o.op = .call { callee := .builtin .append, args := #[s, x], argTypes := #[t, t] }) (hs : ev L s = some v) (hx : ev L x = some u)
    (ht : P.underlying t = some (.slice e)) (hti : TI P e size bytes) (hS : Sl e size B v n xs) (hR : RSl w size u m news)
    (h1 : ∀ u ∈ news, u.oneCell' = true) (h0 : 0 < bytes) (hb : (n + m) * bytes ≤ 140737488355328)
    (k : ∀ a' v' w' B', Hp w0 w' B' → Sl e size B' v' (n + m) (xs ++ news) → FrD Ds N ((dd, v') :: L) a' → wpList P ops Q rest a' w') : wpList P ops Q (o :: rest) a w :=
  ls_append (H := []) hF (by rw [List.append_nil]; exact hH) hg hdst hd ho hs hx ht hti hS hR h1 h0 hb fun a' v' w' B' h2 h3 h4 => k a' v' w' B' (by rwa [List.append_nil] at h2) h3 h4

end

theorem own_cell {w0 w : World} {H : List (Nat × Obj)} {i g j : Nat} {cur : Array Value} {e : TypeId} {fr : Nat × Nat} {v : Value} (hH : Hp w0 w H) (hi : H[i]? = some (g, .cells cur e fr)) (hc : cur[j]? = some v) : w.cell? ⟨g, j, none⟩ = some v :=
  (cell_of_row w g j cur e fr (hH.own _ (List.mem_of_getElem? hi)).1).trans hc

theorem own_cellL {w0 w : World} {H : List (Nat × Obj)} {i g j : Nat} {cs : List Value} {e : TypeId} {fr : Nat × Nat} {v : Value} (hH : Hp w0 w H) (hi : H[i]? = some (g, .cells cs.toArray e fr)) (hc : lget cs j = some v) : w.cell? ⟨g, j, none⟩ = some v :=
  own_cell hH hi (by simpa using lget_spec hc)

/-! ### Addresses, loads, stores -/

/-- A struct's field: how many cells lie ahead of it. -/
def FD (P : Program) (s : TypeId) (f off : Nat) : Prop := ∃ fs fd i, P.underlying s = some (.struct fs) ∧ fs[f]? = some fd ∧ fd.offset = off ∧ P.info? fd.type = some i ∧ i.size ≠ 0
theorem fd_of {P : Program} {s : TypeId} {f off : Nat} (h : ((P.underlying s).bind fun d => match d with | .struct fs => (fs[f]?).bind fun fd => (P.info? fd.type).map fun i => (fd.offset, decide (i.size = 0)) | _ => none) = some (off, false)) : FD P s f off := by
  obtain ⟨d, hd, h⟩ := Option.bind_eq_some_iff.1 h
  cases d <;> simp only at h <;> try cases h
  rename_i fs
  obtain ⟨fd, hfd, h⟩ := Option.bind_eq_some_iff.1 h
  obtain ⟨i, hi, h⟩ := Option.map_eq_some_iff.1 h
  simp only [Prod.mk.injEq, decide_eq_false_iff_not] at h
  exact ⟨fs, fd, i, hd, hfd, h.1, hi, h.2⟩
/-- A type's zero value. -/
def ZV (P : Program) (t : TypeId) (z : Value) : Prop := ∃ i, P.info? t = some i ∧ i.zero = some z
theorem zv_of {P : Program} {t : TypeId} {z : Value} (h : (P.info? t).bind (·.zero) = some z) : ZV P t z := by
  obtain ⟨i, hi, hz⟩ := Option.bind_eq_some_iff.1 h
  exact ⟨i, hi, hz⟩
/-- A type of one cell. -/
def flat (P : Program) (t : TypeId) : Bool := match P.underlying t with | some (.struct _) | some (.array _ _) | none => false | _ => true
theorem run_isAgg_flat {P : Program} {t : TypeId} (h : flat P t = true) (w : World) : (isAgg t).run P w = .ok false w := by
  unfold flat at h
  cases hu : P.underlying t with
  | none => simp [hu] at h
  | some d => cases d <;> simp [hu] at h <;> simp [isAgg, run_underlying hu]
theorem run_isAgg_struct {P : Program} {t : TypeId} {fs : Array Field} (h : P.underlying t = some (.struct fs)) (w : World) : (isAgg t).run P w = .ok true w := by simp [isAgg, run_underlying h]

section
variable {P : Program} {o : Oper} {a : Act} {w w' w0 : World} {N dd : Nat} {L : List (Nat × Value)} {v : Value} {H B : List (Nat × Obj)}

theorem r_convrun (hF : FrD Ds N L a) {x : Operand} {s d : TypeId} {u : Value} (ho : o.op = .convert s d x) (hx : ev L x = some u) (hr : (convert s d u).run P w = .ok v w) : Does P o a w v w := by
  left; unfold execOp; simp [ho, hF.ev hx, hr]
theorem r_nilcheck (hF : FrD Ds N L a) {x : Operand} {ad : Addr} (ho : o.op = .nilCheck x) (hx : ev L x = some (.pointer (some ad))) : Does P o a w (.pointer (some ad)) w := by
  left; unfold execOp; simp [ho, hF.ev hx]
theorem r_fieldaddr (hF : FrD Ds N L a) {x : Operand} {s : TypeId} {f off b q : Nat} (ho : o.op = .fieldAddr s x f) (hx : ev L x = some (.pointer (some ⟨b, q, none⟩))) (hfd : FD P s f off) : Does P o a w (.pointer (some ⟨b, q + off, none⟩)) w := by
  obtain ⟨fs, fd, i, h1, h2, h3, h4, h5⟩ := hfd
  left; unfold execOp
  simp [ho, hF.ev hx, Instr.fieldAt, run_underlying h1, h2, Instr.sureAddr, fieldPlace, sizeOf, typeInfo, h4, h5, h3, Addr.add_lit]
theorem r_fieldaddr0 (hF : FrD Ds N L a) {x : Operand} {s : TypeId} {f off b : Nat} (ho : o.op = .fieldAddr s x f) (hx : ev L x = some (.pointer (some ⟨b, 0, none⟩))) (hfd : FD P s f off) : Does P o a w (.pointer (some ⟨b, off, none⟩)) w := by
  have := r_fieldaddr (w := w) hF ho hx hfd; rwa [Nat.zero_add] at this
theorem r_indexaddr (hF : FrD Ds N L a) {x i : Operand} {t e : TypeId} {size bytes b q n cap : Nat} {k : IntKind} (m : Nat) (ho : o.op = .indexAddr t x i) (hx : ev L x = some (.slice (some ⟨b, q, none⟩) n cap)) (hi : ev L i = some (.int k (m : Int)))
    (ht : P.underlying t = some (.slice e)) (hti : TI P e size bytes) (h : m < n) : Does P o a w (.pointer (some ⟨b, q + m * size, none⟩)) w := by
  obtain ⟨inf, z, h1, _, rfl, _, _⟩ := hti
  have h0 : (m : Int) < (n : Int) := by omega
  left; unfold execOp
  simp [ho, hF.ev hx, hF.ev hi, Instr.indexAt, asIntOf, run_underlying ht, h, sizeOf, typeInfo, h1, Addr.add_lit]
theorem r_ixown (hF : FrD Ds N L a) {x i : Operand} {t e : TypeId} {size bytes b n cap : Nat} {k : IntKind} (m : Nat) (ho : o.op = .indexAddr t x i) (hx : ev L x = some (.slice (some ⟨b, 0, none⟩) n cap)) (hi : ev L i = some (.int k (m : Int)))
    (ht : P.underlying t = some (.slice e)) (hti : TI P e size bytes) (h : m < n) : Does P o a w (.pointer (some ⟨b, m * size, none⟩)) w := by
  have := r_indexaddr (w := w) hF m ho hx hi ht hti h; rwa [Nat.zero_add] at this
theorem r_ixown1 (hF : FrD Ds N L a) {x i : Operand} {t e : TypeId} {bytes b n cap : Nat} {k : IntKind} (m : Nat) (ho : o.op = .indexAddr t x i) (hx : ev L x = some (.slice (some ⟨b, 0, none⟩) n cap)) (hi : ev L i = some (.int k (m : Int)))
    (ht : P.underlying t = some (.slice e)) (hti : TI P e 1 bytes) (h : m < n) : Does P o a w (.pointer (some ⟨b, m, none⟩)) w := by
  have := r_indexaddr (w := w) hF m ho hx hi ht hti h; rwa [Nat.zero_add, Nat.mul_one] at this
theorem r_ix1 (hF : FrD Ds N L a) {x i : Operand} {t e : TypeId} {bytes b q n cap : Nat} {k : IntKind} (m : Nat) (ho : o.op = .indexAddr t x i) (hx : ev L x = some (.slice (some ⟨b, q, none⟩) n cap)) (hi : ev L i = some (.int k (m : Int)))
    (ht : P.underlying t = some (.slice e)) (hti : TI P e 1 bytes) (h : m < n) : Does P o a w (.pointer (some ⟨b, q + m, none⟩)) w := by
  have := r_indexaddr (w := w) hF m ho hx hi ht hti h; rwa [Nat.mul_one] at this
theorem r_load (hF : FrD Ds N L a) {x : Operand} {t : TypeId} {b q : Nat} (ho : o.op = .load t x) (hx : ev L x = some (.pointer (some ⟨b, q, none⟩))) (ht : flat P t = true) (hc : w.cell? ⟨b, q, none⟩ = some v) : Does P o a w v w := by
  left; unfold execOp
  simp [ho, hF.ev hx, Instr.loadAt, Instr.sureAddr, loadVar, run_isAgg_flat ht, hc]
theorem r_loadagg (hF : FrD Ds N L a) {x : Operand} {t : TypeId} {b q size bytes : Nat} {fs : Array Field} {cs : List Value} (ho : o.op = .load t x) (hx : ev L x = some (.pointer (some ⟨b, q, none⟩))) (ht : P.underlying t = some (.struct fs))
    (hti : TI P t size bytes) (hs : cs.length = size) (hc : ∀ j u, cs[j]? = some u → w.cell? ⟨b, q + j, none⟩ = some u) : Does P o a w (.agg cs.toArray) w := by
  obtain ⟨inf, z, h1, _, rfl, _, _⟩ := hti
  have hl := run_loadCells_list (P := P) w ⟨b, q, none⟩ cs (fun j u hu => by rw [Addr.add_lit]; exact hc j u hu)
  rw [hs] at hl
  left; unfold execOp
  simp [ho, hF.ev hx, Instr.loadAt, Instr.sureAddr, loadVar, run_isAgg_struct ht, sizeOf, typeInfo, h1, hl]

theorem set_getElem {α : Type} {H : List α} {i : Nat} {p : α} : ∀ {q : α}, q ∈ H.set i p → q = p ∨ ∃ j, j ≠ i ∧ H[j]? = some q := by
  intro q hq
  obtain ⟨j, hj, he⟩ := List.getElem_of_mem hq
  rw [List.getElem_set] at he
  split at he
  · exact .inl he.symm
  · rename_i hne
    exact .inr ⟨j, fun e => hne e.symm, by rw [List.getElem?_eq_getElem (by simpa using hj), he]⟩

/-- One block of one's own is written: wherever it stands in the list. -/
theorem Hp.writeAt {i g : Nat} {o1 o2 : Obj} (h : Hp w0 w H) (hi : H[i]? = some (g, o1)) (hw : w'.heap[g]? = some o2) (hsz : w'.heap.size = w.heap.size)
    (hos : w'.os = w.os ∧ w'.tape = w.tape ∧ w'.output = w.output) (ho : ∀ k, k ≠ g → w'.heap[k]? = w.heap[k]?) : Hp w0 w' (H.set i (g, o2)) := by
  obtain ⟨hg, hb⟩ := h.own (g, o1) (List.mem_of_getElem? hi)
  have hmap : (H.set i (g, o2)).map (·.1) = H.map (·.1) := by
    rw [List.map_set]
    obtain ⟨hlt, he⟩ := List.getElem?_eq_some_iff.1 hi
    have : (g, o2).1 = (H.map (·.1))[i]'(by simpa using hlt) := by simp [he]
    rw [this, List.set_getElem_self]
  have hx : Ext w0 w' := Below.trans h.below ⟨hos.1, hos.2.1, hos.2.2, Nat.le_of_eq hsz.symm, fun k hk => ho k (by simp only at hb; omega)⟩
  refine ⟨hx, fun p hp => ?_, by rw [hmap]; exact h.nodup⟩
  rcases set_getElem hp with rfl | ⟨j, hj, hjp⟩
  · exact ⟨hw, hb⟩
  · have hne : p.1 ≠ g := fun e => by
      have h1 : (H.map (·.1))[j]? = some g := by rw [List.getElem?_map, hjp, ← e]; rfl
      have h2 : (H.map (·.1))[i]? = some g := by rw [List.getElem?_map, hi]; rfl
      have h3 : j < (H.map (·.1)).length := (List.getElem?_eq_some_iff.1 h1).1
      exact hj ((List.getElem?_inj h3 h.nodup).1 (h1.trans h2.symm))
    have := h.own p (List.mem_of_getElem? hjp)
    exact ⟨(ho _ hne).trans this.1, this.2⟩

def noFreeze (fr : Nat × Nat) (off : Nat) : Prop := ¬ (fr.1 ≤ off ∧ off < fr.2)

theorem Hp.setCell {i g off : Nat} {cur : Array Value} {e : TypeId} {fr : Nat × Nat} (h : Hp w0 w H) (hi : H[i]? = some (g, .cells cur e fr)) :
    Hp w0 (w.setCell ⟨g, off, none⟩ v) (H.set i (g, .cells (cur.setIfInBounds off v) e fr)) := by
  have hg := (h.own _ (List.mem_of_getElem? hi)).1
  refine h.writeAt hi ?_ (by simp [World.setCell]) ⟨rfl, rfl, rfl⟩ fun k hk => Below.heap_setCell w _ v k hk
  simp only [World.setCell, Array.getElem?_modify, if_true]
  simp only at hg
  simp [hg]

theorem run_store_own {i g off : Nat} {cur : Array Value} {e : TypeId} {fr : Nat × Nat} (h : Hp w0 w H) (hi : H[i]? = some (g, .cells cur e fr)) (hoff : off < cur.size) (hfr : noFreeze fr off) (h1 : v.oneCell' = true) :
    (store ⟨g, off, none⟩ v).run P w = .ok () (w.setCell ⟨g, off, none⟩ v) := by
  have hg := (h.own _ (List.mem_of_getElem? hi)).1
  simp only at hg
  rw [run_store P w _ v _ h1]
  have hc : w.cell? ⟨g, off, none⟩ = some cur[off] := by simp [World.cell?, hg, hoff]
  have hf : w.frozen? ⟨g, off, none⟩ = false := by
    obtain ⟨lo, hi'⟩ := fr
    simp only [World.frozen?, hg, Bool.and_eq_false_iff, decide_eq_false_iff_not]
    unfold noFreeze at hfr
    simp only at hfr
    omega
  simp [hc, hf]

theorem r_store (hF : FrD Ds N L a) {x y : Operand} {t : TypeId} {i g off : Nat} {cur : Array Value} {e : TypeId} {fr : Nat × Nat} (h : Hp w0 w H) (ho : o.op = .store t x y) (hx : ev L x = some (.pointer (some ⟨g, off, none⟩))) (hy : ev L y = some v)
    (ht : flat P t = true) {bytes : Nat} (hs : TI P t 1 bytes) (hi : H[i]? = some (g, .cells cur e fr)) (hoff : off < cur.size) (hfr : noFreeze fr off) (h1 : v.oneCell' = true) :
    Does P o a w undef (w.setCell ⟨g, off, none⟩ v) := by
  obtain ⟨inf, z, hinf, _, hsz, _, _⟩ := hs
  have hst := run_store_own (P := P) h hi hoff hfr h1
  have hcs : v.cells = #[v] := by cases v <;> first | rfl | simp [Value.oneCell'] at h1
  right; refine ⟨?_, rfl⟩; unfold execOp
  simp [ho, hF.ev hx, hF.ev hy, Instr.storeAt, Instr.sureAddr, storeVar, hcs, sizeOf, typeInfo, hinf, hsz, storeCells, Addr.add_zero', hst]

/-- A store of a whole struct (or array) over a block of one's own. -/
theorem r_storeagg (hF : FrD Ds N L a) {x y : Operand} {t : TypeId} {i g size bytes : Nat} {cur vs : Array Value} {e : TypeId} (h : Hp w0 w H) (ho : o.op = .store t x y) (hx : ev L x = some (.pointer (some ⟨g, 0, none⟩))) (hy : ev L y = some (.agg vs))
    (hs : TI P t size bytes) (hi : H[i]? = some (g, .cells cur e (0, 0))) (hcur : cur.size = size) (hvs : vs.size = size) (h1 : ∀ u ∈ vs.toList, u.oneCell' = true) :
    Does P o a w undef (w.setRow g vs) := by
  obtain ⟨inf, z, hinf, _, hsz, _, _⟩ := hs
  have hg := (h.own _ (List.mem_of_getElem? hi)).1
  simp only at hg
  have hst := run_storeCells_from (P := P) g e vs.toList 0 cur w hg (by simp; omega) h1
  right; refine ⟨?_, rfl⟩; unfold execOp
  simp [ho, hF.ev hx, hF.ev hy, Instr.storeAt, Instr.sureAddr, storeVar, Value.cells, sizeOf, typeInfo, hinf, hsz, hvs] at hst ⊢
  rw [hst]; rfl

theorem Hp.setRow {i g : Nat} {cur vs : Array Value} {e : TypeId} (h : Hp w0 w H) (hi : H[i]? = some (g, .cells cur e (0, 0))) : Hp w0 (w.setRow g vs) (H.set i (g, .cells vs e (0, 0))) := by
  have hg := (h.own _ (List.mem_of_getElem? hi)).1
  exact h.writeAt hi (setRow_heap w g cur vs e (0, 0) hg) (by simp) ⟨rfl, rfl, rfl⟩ fun k hk => setRow_other w g k vs hk
end

section
variable {P : Program} {ops : Array Oper} {Q : Exit → Act → World → Prop} {rest : List Oper} {o : Oper} {a : Act} {w w0 : World} {N dd : Nat} {L : List (Nat × Value)} {H B : List (Nat × Obj)}

/-- A new variable. -/
theorem ls_alloc {t : TypeId} {z : Value} (hF : FrD Ds N L a) (hH : Hp w0 w H) (hg : o.guard = none) (hdst : o.dst = some dd) (hd : Nat.blt dd N = true) (ho : o.op = .alloc t) (hz : ZV P t z)
    (k : ∀ a' w' g, Hp w0 w' ((g, .cells z.cells t (0, 0)) :: H) → Ext w w' → FrD Ds N ((dd, .pointer (some ⟨g, 0, none⟩)) :: L) a' → wpList P ops Q rest a' w') : wpList P ops Q (o :: rest) a w := by
  obtain ⟨i, hi, hz⟩ := hz
  refine ls hF hg hdst hd (v := .pointer (some ⟨w.heap.size, 0, none⟩)) (w' := w.alloc (.cells z.cells t (0, 0))) (.inl ?_) fun a' hF' => k a' _ _ (hH.alloc _) (Ext.alloc _ _) hF'
  unfold execOp
  simp [ho, Instr.alloc, zeroValue, typeInfo, hi, hz, newVar, newRow]
theorem ls_box {t : TypeId} {x : Operand} {u : Value} (hF : FrD Ds N L a) (hH : Hp w0 w H) (hg : o.guard = none) (hdst : o.dst = some dd) (hd : Nat.blt dd N = true) (ho : o.op = .box t x) (hx : ev L x = some u)
    (k : ∀ a' w' g, Hp w0 w' ((g, .cells u.cells t (0, 0)) :: H) → Ext w w' → FrD Ds N ((dd, .pointer (some ⟨g, 0, none⟩)) :: L) a' → wpList P ops Q rest a' w') : wpList P ops Q (o :: rest) a w := by
  refine ls hF hg hdst hd (v := .pointer (some ⟨w.heap.size, 0, none⟩)) (w' := w.alloc (.cells u.cells t (0, 0))) (.inl ?_) fun a' hF' => k a' _ _ (hH.alloc _) (Ext.alloc _ _) hF'
  unfold execOp
  simp [ho, hF.ev hx, Instr.box, newVar, newRow]
theorem ls_store {x y : Operand} {t : TypeId} {g off bytes : Nat} {cur : Array Value} {e : TypeId} {fr : Nat × Nat} {v : Value} (i : Nat) (hF : FrD Ds N L a) (h : Hp w0 w H) (hg : o.guard = none) (hdst : o.dst = none) (ho : o.op = .store t x y)
    (hx : ev L x = some (.pointer (some ⟨g, off, none⟩))) (hy : ev L y = some v) (ht : flat P t = true) (hs : TI P t 1 bytes) (hi : H[i]? = some (g, .cells cur e fr)) (hoff : off < cur.size) (hfr : noFreeze fr off) (h1 : v.oneCell' = true)
    (k : ∀ w', Hp w0 w' (H.set i (g, .cells (cur.setIfInBounds off v) e fr)) → wpList P ops Q rest a w') : wpList P ops Q (o :: rest) a w :=
  ls0 hF hg hdst (r_store hF h ho hx hy ht hs hi hoff hfr h1) (k _ (h.setCell hi))
theorem ls_storeagg {x y : Operand} {t : TypeId} {g size bytes : Nat} {cur vs : Array Value} {e : TypeId} (i : Nat) (hF : FrD Ds N L a) (h : Hp w0 w H) (hg : o.guard = none) (hdst : o.dst = none) (ho : o.op = .store t x y)
    (hx : ev L x = some (.pointer (some ⟨g, 0, none⟩))) (hy : ev L y = some (.agg vs)) (hs : TI P t size bytes) (hi : H[i]? = some (g, .cells cur e (0, 0))) (hcur : cur.size = size) (hvs : vs.size = size) (h1 : ∀ u ∈ vs.toList, u.oneCell' = true)
    (k : ∀ w', Hp w0 w' (H.set i (g, .cells vs e (0, 0))) → wpList P ops Q rest a w') : wpList P ops Q (o :: rest) a w :=
  ls0 hF hg hdst (r_storeagg hF h ho hx hy hs hi hcur hvs h1) (k _ (h.setRow hi))

/-! ### Texts and bytes -/
theorem b_sadd (t : TypeId) (x y : List UInt8) (h : x.length + y.length ≤ 9223372036854775807) : (binOp .add t (.string (mk x)) (.string (mk y))).run P w = .ok (.string (mk (x ++ y))) w := by
  have h' : (x.length : Int) + (y.length : Int) ≤ 9223372036854775807 := by omega
  simp [go_sem, Op.stringOp, h']

/-- The cells of bytes. -/
def bytV (l : List UInt8) : List Value := l.map fun b => .int .u8 (b.toNat : Int)
theorem bytV_length (l : List UInt8) : (bytV l).length = l.length := by simp [bytV]
theorem bytV_append (l m : List UInt8) : bytV (l ++ m) = bytV l ++ bytV m := by simp [bytV]
theorem bytV_one (l : List UInt8) : ∀ u ∈ bytV l, u.oneCell' = true := by
  intro u hu; obtain ⟨b, _, rfl⟩ := List.mem_map.1 hu; rfl
theorem bytV_get {l : List UInt8} {i : Nat} (h : i < l.length) : (bytV l)[i]? = some (.int .u8 ((l.getD i 0).toNat : Int)) := by
  simp [bytV, h]

theorem r_convstr (hF : FrD Ds N L a) {x : Operand} {s d e : TypeId} {v : Value} {n : Nat} {l : List UInt8} (ho : o.op = .convert s d x) (hx : ev L x = some v) (hs : P.underlying s = some (.slice e)) (he : P.underlying e = some (.int .u8)) (hd : P.underlying d = some .string)
    (hR : RSl w 1 v n (bytV l)) : Does P o a w (.string (mk l)) w := by
  obtain ⟨h1, ad, cap, rfl, h2, h3, h4⟩ := hR
  have hn : n = l.length := by simpa [bytV_length] using h1.symm
  subst hn
  left; unfold execOp
  rcases h4 with ⟨-, rfl, h0⟩ | ⟨b, off, rfl, hc⟩
  · have : l = [] := List.eq_nil_of_length_eq_zero h0
    subst this
    have := run_convert_bytes_string (P := P) w s d e ad 0 0 hs he hd
    cases ad
    · simp [ho, hF.ev hx, this, Conv.bytesToString]; rfl
    · simp [ho, hF.ev hx, this, Conv.bytesToString, loadCells, loadCellsFrom]; rfl
  · have := run_convert_bytes_back (P := P) w s d e ⟨b, off, none⟩ cap l hs he hd (fun j hj => by
      rw [Addr.add_lit]; refine hc j _ ?_; rw [bytV_get hj]; simp [hj])
    simp [ho, hF.ev hx, this]

/-- A text's bytes in new memory: behind the last one stands a mark. -/
theorem ls_convbytes {x : Operand} {s d e : TypeId} {l : List UInt8} (hF : FrD Ds N L a) (hH : Hp w0 w H) (hg : o.guard = none) (hdst : o.dst = some dd) (hd' : Nat.blt dd N = true) (ho : o.op = .convert s d x) (hx : ev L x = some (.string (mk l)))
    (hs : P.underlying s = some .string) (hd : P.underlying d = some (.slice e)) (he : P.underlying e = some (.int .u8)) (hl : l.length ≤ maxLen)
    (k : ∀ a' w' g cap cur, Hp w0 w' ((g, .cells cur e (cur.size, cur.size + 1)) :: H) → Ext w w' → l.length ≤ cap → cap ≤ maxLen → cur.size = cap → cur.toList.take l.length = bytV l → FrD Ds N ((dd, .slice (some ⟨g, 0, none⟩) l.length cap) :: L) a' → wpList P ops Q rest a' w') :
    wpList P ops Q (o :: rest) a w := by
  have hr := run_bytes_of_string w s d e (mk l) hs hd he
  have hge : l.length ≤ grownCap w (mk l).size 0 e := grownCap_ge w (mk l).size 0 e
  generalize hcap : grownCap w (mk l).size 0 e = cap at hr hge
  have hsz : (bytesRow (mk l) cap).size = cap := by simp [bytesRow]; omega
  have htk : (bytesRow (mk l) cap).toList.take l.length = bytV l := by
    have : (mk l).data = l.toArray := rfl
    simp [bytesRow, bytV, this]
  generalize hC : bytesRow (mk l) cap = C at hr hsz htk
  refine ls hF hg hdst hd' (v := .slice (some ⟨w.heap.size, 0, none⟩) l.length cap) (w' := w.drew.alloc (.cells C e (C.size, C.size + 1))) (.inl ?_) fun a' hF' =>
    k a' _ _ cap C (hH.drew.alloc _) ((Ext.drew w).trans (Ext.alloc _ _)) hge ?_ hsz htk hF'
  · unfold execOp
    simp [ho, hF.ev hx, hr]
  · rw [← hcap]; exact grownCap_le_maxLen w _ 0 e hl

theorem b_peq {t e : TypeId} {p : Option Addr} (h : P.underlying t = some (.pointer e)) : (binOp .eql t (.pointer p) (.pointer none)).run P w = .ok (.bool p.isNone) w := by
  have : P.pointee t = e := by simp [Program.pointee, h]
  exact run_eql_pointer_nil w t p (by rw [this]; exact h)
theorem b_pne {t e : TypeId} {p : Option Addr} (h : P.underlying t = some (.pointer e)) : (binOp .neq t (.pointer p) (.pointer none)).run P w = .ok (.bool !p.isNone) w := by
  have : P.pointee t = e := by simp [Program.pointee, h]
  exact run_neq_pointer_nil w t p (by rw [this]; exact h)

/-- A function without a body. -/
theorem ls_ext {f : FuncId} {fn : Func} {ex : Array Value → Sem Value} {xs : Array Operand} {ats : Array TypeId} {vs : List Value} {v : Value} {w' : World} (hF : FrD Ds N L a) (hg : o.guard = none) (hdst : o.dst = some dd) (hd : Nat.blt dd N = true)
    (ho : o.op = .call { callee := .value (.func f), args := xs, argTypes := ats }) (hxs : evl L xs.toList = some vs) (hf : P.funcs[f]? = some fn) (hn : (fn.name == "runtime.NumGoroutine") = false) (hb : fn.body.isNone = true)
    (h1 : Extern.findNext fn = none) (h2 : Extern.find fn = some ex) (hr : (ex vs.toArray).run P w = .ok v w')
    (k : ∀ a', FrD Ds N ((dd, v) :: L) a' → wpList P ops Q rest a' w') : wpList P ops Q (o :: rest) a w := by
  refine ls hF hg hdst hd (v := v) (w' := w') (.inl ?_) k
  have hm : xs.map a.eval = vs.toArray := by
    apply Array.ext'; simpa using hF.evl hxs
  have hc := run_callFunc_extern hf hn hb h1 h2 vs.toArray w
  rw [hr] at hc
  unfold execOp
  simp [ho, resolve, Act.eval, Deferred.ofValue, hm, invoke, hc, Result.andThen]

theorem strCells_mk (l : List UInt8) : Lib.strCells (mk l) = bytV l := rfl

/-- a text's bytes appended to bytes of one's own. -/
theorem append_own_str {t u ty e : TypeId} {n : Nat} {v : Value} {xs : List Value} {l : List UInt8}
    (hH : Hp w0 w (B ++ H)) (hS : Sl e 1 B v n xs) (ht : P.underlying t = some (.slice e)) (hu : P.underlying u = some .string) (hti : TI P e 1 1) (hz : ZV P e (.int .u8 0)) (hb : n + l.length ≤ 140737488355328) :
    ∃ v' w' B', (Builtin.append_ #[t, u] ty #[v, .string (mk l)]).run P w = .ok v' w' ∧ Hp w0 w' (B' ++ H) ∧ Sl e 1 B' v' (n + l.length) (xs ++ bytV l) := by
  obtain ⟨i, z', hi, hz', hsize, hby, _⟩ := hti
  obtain ⟨i2, hi2, hz2⟩ := hz
  obtain rfl : i = i2 := Option.some.inj (hi.symm.trans hi2)
  obtain rfl : z' = .int .u8 0 := Option.some.inj (hz'.symm.trans hz2)
  have hxl : xs.length = n := by simpa using hS.1
  have hlen : (xs ++ bytV l).length = (n + l.length) * 1 := by rw [List.length_append, hxl, bytV_length, Nat.mul_one]
  have hmax : n + l.length ≤ maxLen := by unfold maxLen; omega
  have fresh : ∀ old, old < n + l.length → ∃ v' w' B', (Result.ok (Value.slice (some ⟨w.heap.size, 0, none⟩) (n + l.length) (grownCap w (n + l.length) old e))
      (w.drew.alloc (.cells (xs.toArray ++ (bytV l).toArray ++ Builtin.zeroCells (Value.int .u8 0).cells (grownCap w (n + l.length) old e - (n + l.length))) e))) = .ok v' w' ∧ Hp w0 w' (B' ++ H) ∧ Sl e 1 B' v' (n + l.length) (xs ++ bytV l) := by
    intro old ho
    have hge := grownCap_ge w (n + l.length) old e
    refine ⟨_, _, [(w.heap.size, _)], rfl, ((hH.sub (List.sublist_append_right B H)).drew).alloc _, hlen, .inr ⟨_, _, _, rfl, rfl, hge, grownCap_le_maxLen w (n + l.length) old e hmax, ?_, ?_⟩⟩
    · have hz1 : (Value.int IntKind.u8 0).cells.size = 1 := rfl
      simp only [Array.size_append, List.size_toArray, size_zeroCells, hz1, hxl, bytV_length]
      omega
    · simp only [Array.toList_append, List.append_assoc]
      rw [← List.append_assoc, ← hlen]
      exact List.take_left
  rcases hS.2 with ⟨rfl, rfl, rfl⟩ | ⟨g, cap, cur, rfl, rfl, hnc, hcap, hcs, htake⟩
  · have hx : xs = [] := List.eq_nil_of_length_eq_zero hxl
    subst hx
    by_cases hm : l.length = 0
    · have hl : l = [] := List.eq_nil_of_length_eq_zero hm
      subst hl
      refine ⟨.slice none 0 0, w, [], ?_, hH, Sl.nil e 1⟩
      have hf := Lib.run_firstCells_string (P := P) w 1 (mk [])
      simp [Builtin.append_, run_underlying ht, run_underlying hu, sizeOf, typeInfo, hi, hsize, Builtin.lenOf] at hf ⊢
      simp [hf]
    · have hr := run_append_nil_string (P := P) w t u ty e i (.int .u8 0) ht hu hi hz' (mk l) (by simpa using Nat.pos_of_ne_zero hm) (by simp; omega) (by rw [hby]; simp; omega)
      obtain ⟨v', w', B', h2, h3, h4⟩ := fresh 0 (by omega)
      have e1 : ((mk l).data.map fun b => Value.int .u8 b.toNat) = (bytV l).toArray := by
        show l.toArray.map _ = _
        rw [List.map_toArray]; rfl
      rw [e1] at hr
      simp only [Nat.zero_add, List.nil_append, Array.empty_append] at h2 h4 ⊢
      exact ⟨v', w', B', hr.trans h2, h3, h4⟩
  · have hg := (hH.own (g, _) (List.mem_append_left _ (List.mem_singleton.2 rfl))).1
    have hcs' : cur.size = cap := by simpa using hcs
    by_cases hroom : n + l.length ≤ cap
    · have hr := Lib.run_append_room_string (P := P) w t u ty e i ht hu hi hsize g n cap cur hg (mk l) (by simpa using hroom) (by rw [hcs']; simpa using hroom)
      refine ⟨_, _, [(g, _)], hr, setRow_hp hH, hlen, .inr ⟨g, cap, _, rfl, rfl, hroom, hcap, ?_, ?_⟩⟩
      · simp only [List.size_toArray, List.length_append, List.length_take, List.length_drop, Array.length_toList, strCells_mk, bytV_length, size_mk]
        omega
      · rw [strCells_mk]
        have h2 : cur.toList.take n = xs := by simpa using htake
        rw [h2, ← hlen]
        exact List.take_left
    · have holds : ∀ j u, xs[j]? = some u → w.cell? ((⟨g, 0, none⟩ : Addr).add j) = some u := fun j u hu => by
        rw [Addr.add_lit, Nat.zero_add, Sl.cell hg j]
        rw [← htake, List.getElem?_take] at hu
        split at hu
        · simpa using hu
        · cases hu
      have hr := Lib.run_append_grow_string (P := P) w t u ty e i (.int .u8 0) ht hu hi hz' ⟨g, 0, none⟩ n cap xs (by rw [hsize]; exact hS.1) holds (mk l) (by simp; omega) (by simp; omega) (by rw [hby]; exact growslice_fits (by simp; omega) (by simp; omega))
      obtain ⟨v', w', B', h2, h3, h4⟩ := fresh cap (by omega)
      exact ⟨v', w', B', hr.trans h2, h3, h4⟩

theorem ls_appendstr {s x : Operand} {t u e : TypeId} {n : Nat} {v : Value} {xs : List Value} {l : List UInt8} (hF : FrD Ds N L a) (hH : Hp w0 w (B ++ H)) (hg : o.guard = none) (hdst : o.dst = some dd) (hd : Nat.blt dd N = true)
    (ho : o.op = .call { callee := .builtin .append, args := #[s, x], argTypes := #[t, u] }) (hs : ev L s = some v) (hx : ev L x = some (.string (mk l)))
    (ht : P.underlying t = some (.slice e)) (hu : P.underlying u = some .string) (hti : TI P e 1 1) (hz : ZV P e (.int .u8 0)) (hS : Sl e 1 B v n xs) (hb : n + l.length ≤ 140737488355328)
    (k : ∀ a' v' w' B', Hp w0 w' (B' ++ H) → Sl e 1 B' v' (n + l.length) (xs ++ bytV l) → FrD Ds N ((dd, v') :: L) a' → wpList P ops Q rest a' w') : wpList P ops Q (o :: rest) a w := by
  obtain ⟨v', w', B', hr, h2, h3⟩ := append_own_str (ty := o.type) hH hS ht hu hti hz hb
  refine ls hF hg hdst hd (v := v') (w' := w') (.inl ?_) fun a' hF' => k a' v' w' B' h2 h3 hF'
  rw [exec_builtin hF ho (ev2 hs hx)]
  rw [BigFrame.builtin_append]
  simp [hr]
end
end Go.Proofs.YtpoebplhemimmaaGreatDoor
