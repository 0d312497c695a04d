/-
  append that leaves what it appends to as it was. Nothing is claimed here.
-/
import Derived.Test.YtcelgjabccgnmaaDoorGroup8
namespace Go.Proofs.YtcelgjabccgnmaaDoor
open Go.RowKit
set_option linter.unusedVariables false
set_option linter.unusedSimpArgs false
set_option maxHeartbeats 1000000

theorem append_keep {P : Program} {w0 w : World} {H B : List (Nat × Obj)} {t ty e : TypeId} {size bytes n m : Nat} {v x : Value} {xs news : List Value}
    (hH : Hp w0 w (B ++ H)) (hS : Sl e size B v n xs) (ht : P.underlying t = some (.slice e)) (hti : TI P e size bytes) (hx : RSl w size x m news)
    (h1 : ∀ u ∈ news, u.oneCell' = true) (h0 : 0 < bytes) (hb : (n + m) * bytes ≤ 140737488355328) :
    ∃ v' w' B', (Builtin.append_ #[t, t] ty #[v, x]).run P w = .ok v' w' ∧ Hp w0 w' (B' ++ H) ∧ Sl e size B' v n xs ∧ RSl w' size v' (n + m) (xs ++ news) := by
  obtain ⟨i, z, hi, hz, rfl, rfl, hzs⟩ := hti
  obtain ⟨hl, a, c, rfl, hmc, hcm, hsrc⟩ := hx
  have hle : n + m ≤ (n + m) * i.bytes := Nat.le_mul_of_pos_right _ h0
  have hlen : (xs ++ news).length = (n + m) * i.size := by rw [List.length_append, hS.1, hl, Nat.add_mul]
  have hmax : n + m ≤ maxLen := by unfold maxLen; omega
  rcases hsrc with ⟨rfl, rfl, rfl⟩ | ⟨b, off, rfl, hsrc⟩
  · have hn : news = [] := List.eq_nil_of_length_eq_zero (by simpa using hl)
    subst hn
    refine ⟨v, w, B, ?_, hH, hS, by simpa using hS.rsl hH fun p hp => List.mem_append_left _ hp⟩
    rcases hS.2 with ⟨rfl, rfl, rfl⟩ | ⟨g, cap, cur, rfl, rfl, hnc, _⟩
    · simp [Builtin.append_, run_underlying ht, sizeOf, typeInfo, hi, Builtin.lenOf, Builtin.firstCells]
    · simp [Builtin.append_, run_underlying ht, sizeOf, typeInfo, hi, Builtin.lenOf, Builtin.firstCells, hnc, storeCells]
  have hnews : ∀ j u, news[j]? = some u → w.cell? ((⟨b, off, none⟩ : Addr).add j) = some u := fun j u hu => by
    rw [Addr.add_lit]; exact hsrc j u hu
  have fresh : ∀ old, old < n + m → ∃ v' w', (Result.ok (Value.slice (some ⟨w.heap.size, 0, none⟩) (n + m) (grownCap w (n + m) old e))
      (w.drew.alloc (.cells (xs.toArray ++ news.toArray ++ Builtin.zeroCells z.cells (grownCap w (n + m) old e - (n + m))) e))) = .ok v' w' ∧ Hp w0 w' (B ++ H) ∧ RSl w' i.size v' (n + m) (xs ++ news) := by
    intro old ho
    have hge := grownCap_ge w (n + m) old e
    have hA := (hH.drew).alloc (.cells (xs.toArray ++ news.toArray ++ Builtin.zeroCells z.cells (grownCap w (n + m) old e - (n + m))) e)
    have hSn : Sl e i.size [(w.drew.heap.size, .cells (xs.toArray ++ news.toArray ++ Builtin.zeroCells z.cells (grownCap w (n + m) old e - (n + m))) e)] (.slice (some ⟨w.drew.heap.size, 0, none⟩) (n + m) (grownCap w (n + m) old e)) (n + m) (xs ++ news) := by
      refine ⟨hlen, .inr ⟨_, _, _, rfl, rfl, hge, grownCap_le_maxLen w (n + m) old e hmax, ?_, ?_⟩⟩
      · simp only [Array.size_append, List.size_toArray, size_zeroCells, hzs, hS.1, hl, ← Nat.add_mul]
        congr 1; omega
      · simp only [Array.toList_append, List.append_assoc]
        rw [← List.append_assoc, ← hlen]
        exact List.take_left
    exact ⟨_, _, rfl, hA.drop, hSn.rsl hA fun p hp => by rw [List.mem_singleton.1 hp]; exact List.mem_cons_self ..⟩
  rcases hS.2 with ⟨rfl, rfl, rfl⟩ | ⟨g, cap, cur, rfl, rfl, hnc, hcap, hcs, htake⟩
  · have hx : xs = [] := List.eq_nil_of_length_eq_zero (by simpa using hS.1)
    subst hx
    by_cases hm : m = 0
    · subst hm
      have hn : news = [] := List.eq_nil_of_length_eq_zero (by simpa using hl)
      subst hn
      refine ⟨.slice none 0 0, w, [], ?_, hH, hS, RSl.nil _ _⟩
      simp [Builtin.append_, run_underlying ht, sizeOf, typeInfo, hi, Builtin.lenOf, Builtin.firstCells, loadCells, loadCellsFrom]
    · have hr := run_append_nil (P := P) w t ty e i z ht hi hz ⟨b, off, none⟩ m c news hl hnews (by omega) (by omega) (by simp only [Nat.zero_add] at hb; omega)
      obtain ⟨v', w', h2, h3, h4⟩ := fresh 0 (by omega)
      simp only [Nat.zero_add, List.nil_append, Array.empty_append] at h2 h4 ⊢
      exact ⟨v', w', [], hr.trans h2, h3, hS, h4⟩
  · have hg := (hH.own (g, _) (List.mem_append_left _ (List.mem_singleton.2 rfl))).1
    by_cases hroom : n + m ≤ cap
    · have hfit : n * i.size + news.length ≤ cur.size := by rw [hl, hcs, ← Nat.add_mul]; exact Nat.mul_le_mul_right _ hroom
      have hr := run_append_room (P := P) w t ty e i ht hi g n cap cur hg ⟨b, off, none⟩ m c news hl hnews h1 hroom hfit
      have hHn := setRow_hp (cur' := (cur.toList.take (n * i.size) ++ news ++ cur.toList.drop (n * i.size + news.length)).toArray) hH
      have hsz : (cur.toList.take (n * i.size) ++ news ++ cur.toList.drop (n * i.size + news.length)).toArray.size = cap * i.size := by
        simp only [List.size_toArray, List.length_append, List.length_take, List.length_drop, Array.length_toList]
        omega
      have hSn : Sl e i.size [(g, .cells (cur.toList.take (n * i.size) ++ news ++ cur.toList.drop (n * i.size + news.length)).toArray e (0, 0))] (.slice (some ⟨g, 0, none⟩) (n + m) cap) (n + m) (xs ++ news) :=
        ⟨hlen, .inr ⟨g, cap, _, rfl, rfl, hroom, hcap, hsz, by rw [htake, ← hlen]; exact List.take_left⟩⟩
      refine ⟨_, _, [(g, _)], hr, hHn, ⟨hS.1, .inr ⟨g, cap, _, rfl, rfl, hnc, hcap, hsz, ?_⟩⟩, hSn.rsl hHn fun p hp => List.mem_append_left _ hp⟩
      rw [htake, List.append_assoc, ← hS.1]
      exact List.take_left
    · have holds : ∀ j u, xs[j]? = some u → w.cell? ((⟨g, 0, none⟩ : Addr).add j) = some u := fun j u hu => by
        rw [Addr.add_lit, Nat.zero_add, Sl.cell hg j]
        rw [← htake, List.getElem?_take] at hu
        split at hu
        · simpa using hu
        · cases hu
      have hr := run_append_grow (P := P) w t ty e i z ht hi hz ⟨g, 0, none⟩ n cap xs hS.1 holds ⟨b, off, none⟩ m c news hl hnews (by omega) (by omega) (growslice_fits (by omega) hb)
      obtain ⟨v', w', h2, h3, h4⟩ := fresh cap (by omega)
      exact ⟨v', w', _, hr.trans h2, h3, hS, h4⟩

section
variable {P : Program} {ops : Array Oper} {Q : Exit → Act → World → Prop} {rest : List Oper} {o : Oper} {a : Act} {w w0 : World} {N dd : Nat} {L : List (Nat × Value)} {H B : List (Nat × Obj)}
theorem ls_appendk {s x : Operand} {t e : TypeId} {size bytes n m : Nat} {v u : Value} {xs news : List Value} (hF : Fr N L a) (hH : Hp w0 w (B ++ H)) (hg : o.guard = none) (hdst : o.dst = some dd) (hd : Nat.blt dd N = true)
    (ho : o.op = .call { callee := .builtin .append, args := #[s, x], argTypes := #[t, t] }) (hs : ev L s = some v) (hx : ev L x = some u)
    (ht : P.underlying t = some (.slice e)) (hti : TI P e size bytes) (hS : Sl e size B v n xs) (hR : RSl w size u m news)
    (h1 : ∀ u ∈ news, u.oneCell' = true) (h0 : 0 < bytes) (hb : (n + m) * bytes ≤ 140737488355328)
    (k : ∀ a' v' w' B', Hp w0 w' (B' ++ H) → Sl e size B' v n xs → RSl w' size v' (n + m) (xs ++ news) → Fr N ((dd, v') :: L) a' → wpList P ops Q rest a' w') : wpList P ops Q (o :: rest) a w := by
  obtain ⟨v', w', B', hr, h2, h3, h4⟩ := append_keep (ty := o.type) hH hS ht hti hR h1 h0 hb
  refine ls hF hg hdst hd (v := v') (w' := w') (.inl ?_) fun a' hF' => k a' v' w' B' h2 h3 h4 hF'
  rw [exec_builtin hF ho (ev2 hs hx)]
  rw [BigFrame.builtin_append]
  simp [hr]
theorem results_c1 {fn : Func} {t : Nat} {ty : TypeId} {g : Nat} {cs : List Value} {tmps : Array Value} (h : fn.results = #[.cell t ty]) (h1 : tmps[t]? = some (.pointer (some ⟨g, 0, none⟩)))
    (hl : (loadVar ty ⟨g, 0, none⟩).run P w = .ok (.agg cs.toArray) w) : (results fn tmps).run P w = .ok (.agg cs.toArray) w := by
  simp [results, h, Array.getD_eq_getD_getElem?, h1, asAddr, hl]
theorem retc1 {fn : Func} {R : Value → World → Prop} {t g i : Nat} {ty : TypeId} {size bytes : Nat} {cs : Array Value} {e : TypeId} {fr : Nat × Nat} (hF : Fr N L a) (hH : Hp w0 w H) (hr : fn.results = #[.cell t ty]) (h1 : lk L t = some (.pointer (some ⟨g, 0, none⟩)))
    (ht : aggT P ty = true) (hti : TI P ty size bytes) (hi : H[i]? = some (g, .cells cs e fr)) (hs : cs.size = size) (h : R (.agg cs) w) :
    bodyPost P fn (fun e w' => ∃ v, e = .returned v ∧ R v w') .ret a w := by
  have hl := run_loadVar_T (w := w) (cs := cs.toList) ht hti (by simpa using hs) (own_agg hH hi)
  exact bodyPost_ret (results_c1 hr (hF.lk h1) hl) hF.defers ⟨_, rfl, by simpa using h⟩
end
end Go.Proofs.YtcelgjabccgnmaaDoor
