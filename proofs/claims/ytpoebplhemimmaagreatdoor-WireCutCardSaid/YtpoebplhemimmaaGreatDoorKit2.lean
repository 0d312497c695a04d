/-
  append that leaves what it appends to as it was. Nothing is claimed here.
  More rules: an operation whose guard says yes; structures stored into rows; append where there is no room. Nothing is claimed here.
  Sets that are read; records of a set; numbers. Nothing is claimed here.
-/
import Derived.Test.YtpoebplhemimmaaGreatDoorOwn
import Derived.Test.YtpoebplhemimmaaGreatDoorRrL
namespace Go.Proofs.YtpoebplhemimmaaGreatDoor
variable {Ds : List Deferred}
open Go.RowKit
set_option linter.unusedVariables false
set_option linter.unusedSimpArgs false
set_option maxHeartbeats 1000000

theorem append_keep {P : Program} {w0 w : World} {H B : List (Nat × Obj)} {t ty e : TypeId} {size bytes n m : Nat} {v x : Value} {xs news : List Value}
    (hH : Hp w0 w (B ++ H)) (hS : Sl e size B v n xs) (ht : P.underlying t = some (.slice e)) (hti : TI P e size bytes) (hx : RSl w size x m news)
    (h1 : ∀ u ∈ news, u.oneCell' = true) (h0 : 0 < bytes) (hb : (n + m) * bytes ≤ 140737488355328) :
    ∃ v' w' B', (Builtin.append_ #[t, t] ty #[v, x]).run P w = .ok v' w' ∧ Hp w0 w' (B' ++ H) ∧ Sl e size B' v n xs ∧ RSl w' size v' (n + m) (xs ++ news) := by
  obtain ⟨i, z, hi, hz, rfl, rfl, hzs⟩ := hti
  obtain ⟨hl, a, c, rfl, hmc, hcm, hsrc⟩ := hx
  have hle : n + m ≤ (n + m) * i.bytes := Nat.le_mul_of_pos_right _ h0
  have hlen : (xs ++ news).length = (n + m) * i.size := by rw [List.length_append, hS.1, hl, Nat.add_mul]
  have hmax : n + m ≤ maxLen := by unfold maxLen; omega
  rcases hsrc with ⟨-, rfl, rfl⟩ | ⟨b, off, rfl, hsrc⟩
  · have hn : news = [] := List.eq_nil_of_length_eq_zero (by simpa using hl)
    subst hn
    refine ⟨v, w, B, ?_, hH, hS, by simpa using hS.rsl hH fun p hp => List.mem_append_left _ hp⟩
    rcases hS.2 with ⟨rfl, rfl, rfl⟩ | ⟨g, cap, cur, rfl, rfl, hnc, _⟩
    · cases a <;> simp [Builtin.append_, run_underlying ht, sizeOf, typeInfo, hi, Builtin.lenOf, Builtin.firstCells, loadCells, loadCellsFrom]
    · cases a <;> simp [Builtin.append_, run_underlying ht, sizeOf, typeInfo, hi, Builtin.lenOf, Builtin.firstCells, hnc, storeCells, loadCells, loadCellsFrom]
  have hnews : ∀ j u, news[j]? = some u → w.cell? ((⟨b, off, none⟩ : Addr).add j) = some u := fun j u hu => by
    rw [Addr.add_lit]; exact hsrc j u hu
  have fresh : ∀ old, old < n + m → ∃ v' w', (Result.ok (Value.slice (some ⟨w.heap.size, 0, none⟩) (n + m) (grownCap w (n + m) old e))
      (w.drew.alloc (.cells (xs.toArray ++ news.toArray ++ Builtin.zeroCells z.cells (grownCap w (n + m) old e - (n + m))) e))) = .ok v' w' ∧ Hp w0 w' (B ++ H) ∧ RSl w' i.size v' (n + m) (xs ++ news) := by
    intro old ho
    have hge := grownCap_ge w (n + m) old e
    have hA := (hH.drew).alloc (.cells (xs.toArray ++ news.toArray ++ Builtin.zeroCells z.cells (grownCap w (n + m) old e - (n + m))) e)
    have hSn : Sl e i.size [(w.drew.heap.size, .cells (xs.toArray ++ news.toArray ++ Builtin.zeroCells z.cells (grownCap w (n + m) old e - (n + m))) e)] (.slice (some ⟨w.drew.heap.size, 0, none⟩) (n + m) (grownCap w (n + m) old e)) (n + m) (xs ++ news) := by
      refine ⟨hlen, .inr ⟨_, _, _, rfl, rfl, hge, grownCap_le_maxLen w (n + m) old e hmax, ?_, ?_⟩⟩
      · simp only [Array.size_append, List.size_toArray, size_zeroCells, hzs, hS.1, hl, ← Nat.add_mul]
        congr 1; omega
      · simp only [Array.toList_append, List.append_assoc]
        rw [← List.append_assoc, ← hlen]
        exact List.take_left
    exact ⟨_, _, rfl, hA.drop, hSn.rsl hA fun p hp => by rw [List.mem_singleton.1 hp]; exact List.mem_cons_self ..⟩
  rcases hS.2 with ⟨rfl, rfl, rfl⟩ | ⟨g, cap, cur, rfl, rfl, hnc, hcap, hcs, htake⟩
  · have hx : xs = [] := List.eq_nil_of_length_eq_zero (by simpa using hS.1)
    subst hx
    by_cases hm : m = 0
    · subst hm
      have hn : news = [] := List.eq_nil_of_length_eq_zero (by simpa using hl)
      subst hn
      refine ⟨.slice none 0 0, w, [], ?_, hH, hS, RSl.nil _ _⟩
      simp [Builtin.append_, run_underlying ht, sizeOf, typeInfo, hi, Builtin.lenOf, Builtin.firstCells, loadCells, loadCellsFrom]
    · have hr := run_append_nil (P := P) w t ty e i z ht hi hz ⟨b, off, none⟩ m c news hl hnews (by omega) (by omega) (by simp only [Nat.zero_add] at hb; omega)
      obtain ⟨v', w', h2, h3, h4⟩ := fresh 0 (by omega)
      simp only [Nat.zero_add, List.nil_append, Array.empty_append] at h2 h4 ⊢
      exact ⟨v', w', [], hr.trans h2, h3, hS, h4⟩
  · have hg := (hH.own (g, _) (List.mem_append_left _ (List.mem_singleton.2 rfl))).1
    by_cases hroom : n + m ≤ cap
    · have hfit : n * i.size + news.length ≤ cur.size := by rw [hl, hcs, ← Nat.add_mul]; exact Nat.mul_le_mul_right _ hroom
      have hr := run_append_room (P := P) w t ty e i ht hi g n cap cur hg ⟨b, off, none⟩ m c news hl hnews h1 hroom hfit
      have hHn := setRow_hp (cur' := (cur.toList.take (n * i.size) ++ news ++ cur.toList.drop (n * i.size + news.length)).toArray) hH
      have hsz : (cur.toList.take (n * i.size) ++ news ++ cur.toList.drop (n * i.size + news.length)).toArray.size = cap * i.size := by
        simp only [List.size_toArray, List.length_append, List.length_take, List.length_drop, Array.length_toList]
        omega
      have hSn : Sl e i.size [(g, .cells (cur.toList.take (n * i.size) ++ news ++ cur.toList.drop (n * i.size + news.length)).toArray e (0, 0))] (.slice (some ⟨g, 0, none⟩) (n + m) cap) (n + m) (xs ++ news) :=
        ⟨hlen, .inr ⟨g, cap, _, rfl, rfl, hroom, hcap, hsz, by rw [htake, ← hlen]; exact List.take_left⟩⟩
      refine ⟨_, _, [(g, _)], hr, hHn, ⟨hS.1, .inr ⟨g, cap, _, rfl, rfl, hnc, hcap, hsz, ?_⟩⟩, hSn.rsl hHn fun p hp => List.mem_append_left _ hp⟩
      rw [htake, List.append_assoc, ← hS.1]
      exact List.take_left
    · have holds : ∀ j u, xs[j]? = some u → w.cell? ((⟨g, 0, none⟩ : Addr).add j) = some u := fun j u hu => by
        rw [Addr.add_lit, Nat.zero_add, Sl.cell hg j]
        rw [← htake, List.getElem?_take] at hu
        split at hu
        · simpa using hu
        · cases hu
      have hr := run_append_grow (P := P) w t ty e i z ht hi hz ⟨g, 0, none⟩ n cap xs hS.1 holds ⟨b, off, none⟩ m c news hl hnews (by omega) (by omega) (growslice_fits (by omega) hb)
      obtain ⟨v', w', h2, h3, h4⟩ := fresh cap (by omega)
      exact ⟨v', w', _, hr.trans h2, h3, hS, h4⟩

section
variable {P : Program} {ops : Array Oper} {Q : Exit → Act → World → Prop} {rest : List Oper} {o : Oper} {a : Act} {w w0 : World} {N dd : Nat} {L : List (Nat × Value)} {H B : List (Nat × Obj)}
theorem ls_appendk {s x : Operand} {t e : TypeId} {size bytes n m : Nat} {v u : Value} {xs news : List Value} (hF : FrD Ds N L a) (hH : Hp w0 w (B ++ H)) (hg : o.guard = none) (hdst : o.dst = some dd) (hd : Nat.blt dd N = true)
    (ho : o.op = .call { callee := .builtin .append, args := #[s, x], argTypes := #[t, t] }) (hs : ev L s = some v) (hx : ev L x = some u)
    (ht : P.underlying t = some (.slice e)) (hti : TI P e size bytes) (hS : Sl e size B v n xs) (hR : RSl w size u m news)
    (h1 : ∀ u ∈ news, u.oneCell' = true) (h0 : 0 < bytes) (hb : (n + m) * bytes ≤ 140737488355328)
    (k : ∀ a' v' w' B', Hp w0 w' (B' ++ H) → Sl e size B' v n xs → RSl w' size v' (n + m) (xs ++ news) → FrD Ds N ((dd, v') :: L) a' → wpList P ops Q rest a' w') : wpList P ops Q (o :: rest) a w := by
  obtain ⟨v', w', B', hr, h2, h3, h4⟩ := append_keep (ty := o.type) hH hS ht hti hR h1 h0 hb
  refine ls hF hg hdst hd (v := v') (w' := w') (.inl ?_) fun a' hF' => k a' v' w' B' h2 h3 h4 hF'
  rw [exec_builtin hF ho (ev2 hs hx)]
  rw [BigFrame.builtin_append]
  simp [hr]
theorem results_c1 {fn : Func} {t : Nat} {ty : TypeId} {g : Nat} {cs : List Value} {tmps : Array Value} (h : fn.results = #[.cell t ty]) (h1 : tmps[t]? = some (.pointer (some ⟨g, 0, none⟩)))
    (hl : (loadVar ty ⟨g, 0, none⟩).run P w = .ok (.agg cs.toArray) w) : (results fn tmps).run P w = .ok (.agg cs.toArray) w := by
  simp [results, h, Array.getD_eq_getD_getElem?, h1, asAddr, hl]
theorem retc1 {fn : Func} {R : Value → World → Prop} {t g i : Nat} {ty : TypeId} {size bytes : Nat} {cs : Array Value} {e : TypeId} {fr : Nat × Nat} (hF : Fr N L a) (hH : Hp w0 w H) (hr : fn.results = #[.cell t ty]) (h1 : lk L t = some (.pointer (some ⟨g, 0, none⟩)))
    (ht : aggT P ty = true) (hti : TI P ty size bytes) (hi : H[i]? = some (g, .cells cs e fr)) (hs : cs.size = size) (h : R (.agg cs) w) :
    bodyPost P fn (fun e w' => ∃ v, e = .returned v ∧ R v w') .ret a w := by
  have hl := run_loadVar_T (w := w) (cs := cs.toList) ht hti (by simpa using hs) (own_agg hH hi)
  exact bodyPost_ret (results_c1 hr (hF.lk h1) hl) hF.defers ⟨_, rfl, by simpa using h⟩
end
end Go.Proofs.YtpoebplhemimmaaGreatDoor
namespace Go.Proofs.YtpoebplhemimmaaGreatDoor
variable {Ds : List Deferred}
open Go.RowKit
set_option linter.unusedVariables false
set_option linter.unusedSimpArgs false
set_option maxHeartbeats 1000000

section
variable {P : Program} {ops : Array Oper} {Q : Exit → Act → World → Prop} {rest : List Oper} {o : Oper} {a : Act} {w w0 : World} {N dd : Nat} {L : List (Nat × Value)} {H B : List (Nat × Obj)}
theorem g_on {j d : Nat} {b want : Bool} (hF : FrD Ds N L a) (hg : o.guard = some (j, want)) (hj : (ops[j]?).bind (·.dst) = some d) (hb : lk L d = some (.bool b)) (hw : b = want)
    (k : wpList P ops Q ({ o with guard := none } :: rest) a w) : wpList P ops Q (o :: rest) a w := by
  have hy := yielded_of hF hj hb
  unfold wpList at k ⊢
  rw [if_pos (by simp [Region.wanted])] at k
  rw [if_pos (by simp only [Region.wanted, hg, hy, hw, beq_self_eq_true])]
  exact k
theorem ls_storeat {x y : Operand} {t : TypeId} {g off size bytes : Nat} {cur vs : Array Value} {e : TypeId} (i : Nat) (hF : FrD Ds N L a) (h : Hp w0 w H) (hg : o.guard = none) (hdst : o.dst = none) (ho : o.op = .store t x y)
    (hx : ev L x = some (.pointer (some ⟨g, off, none⟩))) (hy : ev L y = some (.agg vs)) (hs : TI P t size bytes) (hi : H[i]? = some (g, .cells cur e (0, 0))) (hvs : vs.size = size) (hfit : off + size ≤ cur.size) (h1 : ∀ u ∈ vs.toList, u.oneCell' = true)
    (k : ∀ w', Hp w0 w' (H.set i (g, .cells (wr cur off vs.toList) e (0, 0))) → wpList P ops Q rest a w') : wpList P ops Q (o :: rest) a w := by
  obtain ⟨inf, z, hinf, _, hsz, _, _⟩ := hs
  have hgc := (h.own _ (List.mem_of_getElem? hi)).1
  simp only at hgc
  have hst := run_storeCells_at (P := P) g off e vs.toList 0 cur w hgc (by simpa [hvs] using hfit) h1
  simp only [Nat.add_zero] at hst
  refine ls0 hF hg hdst (v := undef) (w' := w.setRow g (wr cur off vs.toList)) ?_ (k _ (h.setRow hi))
  right; refine ⟨?_, rfl⟩; unfold execOp
  simp [ho, hF.ev hx, hF.ev hy, Instr.storeAt, Instr.sureAddr, storeVar, Value.cells, sizeOf, typeInfo, hinf, hsz, hvs, wr] at hst ⊢
  rw [hst]; rfl
/-- append where there is no room: a row of one's own. -/
theorem ls_appendg {s x : Operand} {t e : TypeId} {size bytes n m : Nat} {ad : Option Addr} {u : Value} {xs news : List Value} (hF : FrD Ds N L a) (hg : o.guard = none) (hdst : o.dst = some dd) (hd : Nat.blt dd N = true)
    (ho : o.op = .call { callee := .builtin .append, args := #[s, x], argTypes := #[t, t] }) (hs : ev L s = some (.slice ad n n)) (hx : ev L x = some u)
    (ht : P.underlying t = some (.slice e)) (hti : TI P e size bytes) (hS : RSl w size (.slice ad n n) n xs) (hR : RSl w size u m news)
    (h0 : 0 < bytes) (hm : 0 < m) (hb : (n + m) * bytes ≤ 140737488355328)
    (k : ∀ a' v' w' B, Hp w w' B → Sl e size B v' (n + m) (xs ++ news) → FrD Ds N ((dd, v') :: L) a' → wpList P ops Q rest a' w') : wpList P ops Q (o :: rest) a w := by
  obtain ⟨i, z, hi, hz, rfl, rfl, hzs⟩ := hti
  obtain ⟨hl, a2, c, rfl, hmc, hcm, hsrc⟩ := hR
  obtain ⟨hsl, ad', c', hv, _, hcm', hsrc'⟩ := hS
  cases hv
  have hle : n + m ≤ (n + m) * i.bytes := Nat.le_mul_of_pos_right _ h0
  have hlen : (xs ++ news).length = (n + m) * i.size := by rw [List.length_append, hsl, hl, Nat.add_mul]
  have hmax : n + m ≤ maxLen := by unfold maxLen; omega
  rcases hsrc with ⟨-, rfl, h3⟩ | ⟨b, off, rfl, hsrc⟩
  · omega
  have hnews : ∀ j u, news[j]? = some u → w.cell? ((⟨b, off, none⟩ : Addr).add j) = some u := fun j u hu => by
    rw [Addr.add_lit]; exact hsrc j u hu
  have hge := grownCap_ge w (n + m) n e
  have hA := ((Hp.refl w).drew).alloc (.cells (xs.toArray ++ news.toArray ++ Builtin.zeroCells z.cells (grownCap w (n + m) n e - (n + m))) e)
  have hSn : Sl e i.size [(w.drew.heap.size, .cells (xs.toArray ++ news.toArray ++ Builtin.zeroCells z.cells (grownCap w (n + m) n e - (n + m))) e)] (.slice (some ⟨w.drew.heap.size, 0, none⟩) (n + m) (grownCap w (n + m) n e)) (n + m) (xs ++ news) := by
    refine ⟨hlen, .inr ⟨_, _, _, rfl, rfl, hge, grownCap_le_maxLen w (n + m) n e hmax, ?_, ?_⟩⟩
    · simp only [Array.size_append, List.size_toArray, size_zeroCells, hzs, hsl, hl, ← Nat.add_mul]
      congr 1; omega
    · simp only [Array.toList_append, List.append_assoc]
      rw [← List.append_assoc, ← hlen]
      exact List.take_left
  have hrun : (Builtin.append_ #[t, t] o.type #[.slice ad n n, .slice (some ⟨b, off, none⟩) m c]).run P w = .ok (.slice (some ⟨w.heap.size, 0, none⟩) (n + m) (grownCap w (n + m) n e))
        (w.drew.alloc (.cells (xs.toArray ++ news.toArray ++ Builtin.zeroCells z.cells (grownCap w (n + m) n e - (n + m))) e)) := by
    rcases hsrc' with ⟨-, rfl, _⟩ | ⟨b', off', rfl, hc'⟩
    · have hx : xs = [] := List.eq_nil_of_length_eq_zero (by simpa using hsl)
      subst hx
      cases ad with
      | some a => exact run_append_grow (P := P) w t o.type e i z ht hi hz a 0 0 [] hsl (fun j u hu => by simp at hu) ⟨b, off, none⟩ m c news hl hnews (by omega) (by omega) (growslice_fits (by omega) hb)
      | none =>
      have hr := run_append_nil (P := P) w t o.type e i z ht hi hz ⟨b, off, none⟩ m c news hl hnews (by omega) (by omega) (by simp only [Nat.zero_add] at hb; omega)
      simpa using hr
    · exact run_append_grow (P := P) w t o.type e i z ht hi hz ⟨b', off', none⟩ n n xs hsl (fun j u hu => by rw [Addr.add_lit]; exact hc' j u hu) ⟨b, off, none⟩ m c news hl hnews (by omega) (by omega) (growslice_fits (by omega) hb)
  refine ls hF hg hdst hd (v := .slice (some ⟨w.heap.size, 0, none⟩) (n + m) (grownCap w (n + m) n e)) (.inl ?_) fun a' hF' => k a' _ _ _ hA hSn hF'
  rw [exec_builtin hF ho (ev2 hs hx), BigFrame.builtin_append]
  simp [hrun]
/-- append where there is no room. -/
theorem ls_appendf {s x : Operand} {t e : TypeId} {size bytes n m : Nat} {ad : Option Addr} {u : Value} {xs news : List Value} (hF : FrD Ds N L a) (hg : o.guard = none) (hdst : o.dst = some dd) (hd : Nat.blt dd N = true)
    (ho : o.op = .call { callee := .builtin .append, args := #[s, x], argTypes := #[t, t] }) (hs : ev L s = some (.slice ad n n)) (hx : ev L x = some u)
    (ht : P.underlying t = some (.slice e)) (hti : TI P e size bytes) (hS : RSl w size (.slice ad n n) n xs) (hR : RSl w size u m news)
    (h0 : 0 < bytes) (hm : 0 < m) (hb : (n + m) * bytes ≤ 140737488355328)
    (k : ∀ a' v' w', Ext w w' → RSl w' size v' (n + m) (xs ++ news) → FrD Ds N ((dd, v') :: L) a' → wpList P ops Q rest a' w') : wpList P ops Q (o :: rest) a w :=
  ls_appendg hF hg hdst hd ho hs hx ht hti hS hR h0 hm hb fun a' v' w' B hB hS' hF' => k a' v' w' hB.below (hS'.rsl hB fun p hp => hp) hF'
end
theorem recsV_snoc (l : List Rec) (r : Rec) : recsV l ++ recV r = recsV (l ++ [r]) := by simp [recsV]
theorem rsnoc {w : World} {v : Value} {n : Nat} {l : List Rec} {r : Rec} (h : RSl w 5 v n (recsV l ++ recV r)) (hn : n = (l ++ [r]).length) : RSl w 5 v (l ++ [r]).length (recsV (l ++ [r])) := by
  rw [recsV_snoc, hn] at h; exact h
theorem rec_one (r : Rec) : ∀ u ∈ recV r, u.oneCell' = true := by intro u hu; simp only [recV, List.mem_cons, List.not_mem_nil, or_false] at hu; rcases hu with rfl | rfl | rfl | rfl | rfl <;> rfl
theorem recs_one (l : List Rec) : ∀ u ∈ recsV l, u.oneCell' = true := by
  intro u hu
  obtain ⟨x, hx, hu⟩ := List.mem_flatten.1 hu
  obtain ⟨r, -, rfl⟩ := List.mem_map.1 hx
  exact rec_one r u hu
theorem foldP_le {l : Pieces} : (foldP l).length ≤ (flt l).length := by
  induction l with
  | nil => exact Nat.le_refl _
  | cons p l ih =>
    simp only [foldP, flt, List.map_cons, List.flatten_cons, List.length_append] at ih ⊢
    have : (if p.2 = true then fold p.1 else p.1).length ≤ p.1.length := by
      split
      · exact fold_le _
      · exact Nat.le_refl _
    omega
theorem dfold_le {k : Nat} {d : Bs} (h : dmayB k d = true) : (dfold k d).length ≤ d.length := by
  have := (agree_all k d).2.2 h
  rw [dfold_eq]
  conv => rhs; rw [← this]
  exact foldP_le
theorem group_len (l : List Rec) : (groupN l).length ≤ l.length ∧ ∀ s ∈ groupN l, s.data.length ≤ l.length := by
  have key : ∀ (l : List Rec) (u : List RSet) (k : Nat), u.length ≤ k → (∀ s ∈ u, s.data.length ≤ k) → (l.foldl addRec u).length ≤ k + l.length ∧ ∀ s ∈ l.foldl addRec u, s.data.length ≤ k + l.length := by
    intro l
    induction l with
    | nil => intro u k h1 h2; exact ⟨by simpa using h1, fun s hs => by have := h2 s hs; simp; omega⟩
    | cons r l ih =>
      intro u k h1 h2
      rw [List.foldl_cons, List.length_cons]
      have := ih (addRec u r) (k + 1) ?_ ?_
      · exact ⟨by omega, fun s hs => by have := this.2 s hs; omega⟩
      · unfold addRec; split
        · unfold addSet; split
          · rw [List.length_set]; omega
          · rw [List.length_append, List.length_cons, List.length_take, List.length_drop]; omega
        · omega
      · intro s hs
        unfold addRec at hs; split at hs
        · rename_i hm
          have hd1 : (setOf r).data.length = 1 := by rw [setOf_yes hm]; rfl
          unfold addSet at hs; split at hs
          · rename_i hk
            rcases List.mem_or_eq_of_mem_set hs with hs | rfl
            · have := h2 s hs; omega
            · rw [getD_eq hk.1]
              have h3 := h2 _ (List.getElem_mem hk.1)
              have h4 := insText_len (u[ahead (before (setOf r)) u]).data ((setOf r).data.getD 0 [])
              simp only; omega
          · rcases List.mem_append.1 hs with hs | hs
            · have := h2 s (List.mem_of_mem_take hs); omega
            · rcases List.mem_cons.1 hs with rfl | hs
              · omega
              · have := h2 s (List.mem_of_mem_drop hs); omega
        · have := h2 s hs; omega
  have := key l [] 0 (Nat.le_refl _) (fun _ h => (List.not_mem_nil h).elim)
  simpa [groupN] using this
structure SetsB (l : List RSet) : Prop where
  len : l.length < 1000000
  name : ∀ s ∈ l, s.name.length < 1000000
  data : ∀ s ∈ l, s.data.length < 1000000
  each : ∀ s ∈ l, ∀ d ∈ s.data, d.length < 1000000
structure RecsB (l : List Rec) : Prop where
  len : l.length < 1000000
  each : ∀ r ∈ l, r.name.length < 1000000 ∧ r.data.length < 1000000
theorem group_bounds {l : List Rec} (h : RecsB l) : SetsB (groupN l) := by
  have hl := group_len l
  have hh := h.len
  refine ⟨by omega, fun s hs => by have := groupN_name hs; omega, fun s hs => by have := hl.2 s hs; omega, fun s hs d hd => ?_⟩
  obtain ⟨r, hr, hk, rfl⟩ := (((group_mem l s).1 hs).data d).1 hd
  have := dfold_le (rmay_data hk.1)
  have := (h.each r hr).2
  omega

theorem recsB_of {l : List Rec} (h : (decide (l.length < 1000000) && l.all fun r => decide (r.name.length < 1000000) && decide (r.data.length < 1000000)) = true) : RecsB l := by
  simp only [Bool.and_eq_true, decide_eq_true_eq, List.all_eq_true] at h
  exact ⟨h.1, h.2⟩
end Go.Proofs.YtpoebplhemimmaaGreatDoor
namespace Go.Proofs.YtpoebplhemimmaaGreatDoor
variable {Ds : List Deferred}
open Go.RowKit
set_option linter.unusedVariables false
set_option linter.unusedSimpArgs false
set_option maxHeartbeats 1000000

theorem rsl_at {w0 w : World} {H : List (Nat × Obj)} {i g n size : Nat} {cs : Array Value} {e : TypeId} {fr : Nat × Nat} (hH : Hp w0 w H) (hi : H[i]? = some (g, .cells cs e fr)) (hs : cs.size = n * size) (hn : n ≤ 1000) : RSl w size (.slice (some ⟨g, 0, none⟩) n n) n cs.toList :=
  ⟨by simpa using hs, _, n, rfl, Nat.le_refl _, by unfold maxLen; omega, .inr ⟨g, 0, rfl, fun j u hu => by rw [Nat.zero_add]; exact own_cell hH hi (by simpa using hu)⟩⟩
theorem SetsR.one {w : World} {v dv : Value} {s : RSet} (h : RSl w 5 v 1 (setV s dv)) (hd : RSl w 1 dv s.data.length (strV s.data)) : SetsR w v [s] :=
  ⟨[dv], rfl, by simpa [setsV] using h, fun i hi => by
    have : i = 0 := by simp at hi; exact hi
    subst this; exact hd⟩



section
variable {P : Program} {ops : Array Oper} {Q : Exit → Act → World → Prop} {rest : List Oper} {o : Oper} {a : Act} {w w0 : World} {N dd : Nat} {L : List (Nat × Value)}
theorem b_remn (t : TypeId) (k : IntKind) (n m : Nat) (h : 0 < m) : (binOp .rem t (.int k (n : Int)) (.int k (m : Int))).run P w = .ok (.int k ((n % m : Nat) : Int)) w := by
  have h1 : ¬ ((m : Int) = 0) := by omega
  have h2 : (n : Int).tmod (m : Int) = ((n % m : Nat) : Int) := by
    rw [Int.tmod_eq_emod_of_nonneg (by omega)]; omega
  simp [go_sem, h1, h2]; omega
theorem r_convw (hF : FrD Ds N L a) {x : Operand} {s d : TypeId} {k k' : IntKind} {n z : Int} (ho : o.op = .convert s d x) (hx : ev L x = some (.int k n)) (hs : P.underlying s = some (.int k)) (hd : P.underlying d = some (.int k')) (h : k'.wrap n = z) : Does P o a w (.int k' z) w :=
  h ▸ r_conv hF ho hx (by rw [hs]; rfl) hd
end
theorem u64_nat (z : Int) : ∃ m : Nat, IntKind.u64.wrap z = (m : Int) ∧ m < 18446744073709551616 := by
  have h : 0 ≤ IntKind.u64.wrap z ∧ IntKind.u64.wrap z < 18446744073709551616 := by
    simp [IntKind.wrap, IntKind.bits, IntKind.signed]; omega
  exact ⟨(IntKind.u64.wrap z).toNat, (Int.toNat_of_nonneg h.1).symm, by omega⟩

def noRec : Rec := ⟨[], 0, 0, 0, []⟩
theorem range_snoc {α : Type} (f : Nat → α) (i : Nat) : (List.range (i + 1)).map f = (List.range i).map f ++ [f i] := by simp [List.range_succ]
theorem recsV_append (a b : List Rec) : recsV (a ++ b) = recsV a ++ recsV b := by simp [recsV]
theorem recsV_take : ∀ (l : List Rec) (k : Nat), (recsV l).take (k * 5) = recsV (l.take k)
  | l, 0 => by simp [recsV]
  | [], k + 1 => by simp [recsV]
  | r :: l, k + 1 => by
    have h : recsV (r :: l) = recV r ++ recsV l := rfl
    have h2 : recsV (r :: l.take k) = recV r ++ recsV (l.take k) := rfl
    rw [h, List.take_succ_cons, h2, show (k + 1) * 5 = (recV r).length + k * 5 by simp [recV]; omega, List.take_length_add_append, recsV_take l k]
theorem recsB_mem {l m : List Rec} (h : RecsB l) (hm : ∀ r ∈ m, r ∈ l) (hl : m.length < 1000000) : RecsB m := ⟨hl, fun r hr => h.each r (hm r hr)⟩
theorem rsl_len {w : World} {v : Value} {n : Nat} {l : List Rec} (h : RSl w 5 v n (recsV l)) (hn : n = l.length) : RSl w 5 v l.length (recsV l) := hn ▸ h
section
variable {P : Program} {ops : Array Oper} {Q : Exit → Act → World → Prop} {rest : List Oper} {o : Oper} {a : Act} {w w0 : World} {N dd : Nat} {L : List (Nat × Value)}
/-- append to an empty row of one's own that has no room. -/
theorem ls_appende {s x : Operand} {t e : TypeId} {size bytes m g : Nat} {u : Value} {news : List Value} (hF : FrD Ds N L a) (hg : o.guard = none) (hdst : o.dst = some dd) (hd : Nat.blt dd N = true)
    (ho : o.op = .call { callee := .builtin .append, args := #[s, x], argTypes := #[t, t] }) (hs : ev L s = some (.slice (some ⟨g, 0, none⟩) 0 0)) (hx : ev L x = some u)
    (ht : P.underlying t = some (.slice e)) (hti : TI P e size bytes) (hH : Hp w0 w [(g, .cells #[] e (0, 0))]) (hR : RSl w size u m news)
    (h0 : 0 < bytes) (hb : m * bytes ≤ 140737488355328)
    (k : ∀ a' v' w' B, Ext w w' → Hp w0 w' B → Sl e size B v' m news → FrD Ds N ((dd, v') :: L) a' → wpList P ops Q rest a' w') : wpList P ops Q (o :: rest) a w := by
  obtain ⟨i, z, hi, hz, rfl, rfl, hzs⟩ := hti
  obtain ⟨hl, a2, c, rfl, hmc, hcm, hsrc⟩ := hR
  have hle : m ≤ m * i.bytes := Nat.le_mul_of_pos_right _ h0
  by_cases hm : m = 0
  · subst hm
    have hn : news = [] := List.eq_nil_of_length_eq_zero (by simpa using hl)
    subst hn
    have hrun : (Builtin.append_ #[t, t] o.type #[.slice (some ⟨g, 0, none⟩) 0 0, .slice a2 0 c]).run P w = .ok (.slice (some ⟨g, 0, none⟩) 0 0) w := by
      cases a2 <;> simp [Builtin.append_, run_underlying ht, sizeOf, typeInfo, hi, Builtin.lenOf, Builtin.firstCells, storeCells, loadCells, loadCellsFrom]
    refine ls hF hg hdst hd (v := .slice (some ⟨g, 0, none⟩) 0 0) (.inl ?_) fun a' hF' => k a' _ _ _ (Ext.refl _) hH ⟨by simp, .inr ⟨g, 0, #[], rfl, rfl, Nat.le_refl _, Nat.zero_le _, by simp, by simp⟩⟩ hF'
    rw [exec_builtin hF ho (ev2 hs hx), BigFrame.builtin_append]
    simp [hrun]
  rcases hsrc with ⟨-, rfl, h3⟩ | ⟨b, off, rfl, hsrc⟩
  · omega
  have hnews : ∀ j u, news[j]? = some u → w.cell? ((⟨b, off, none⟩ : Addr).add j) = some u := fun j u hu => by
    rw [Addr.add_lit]; exact hsrc j u hu
  have hge := grownCap_ge w (0 + m) 0 e
  have hA := ((hH.sub (List.nil_sublist _)).drew).alloc (.cells (([] : List Value).toArray ++ news.toArray ++ Builtin.zeroCells z.cells (grownCap w (0 + m) 0 e - (0 + m))) e)
  have hrun := run_append_grow (P := P) w t o.type e i z ht hi hz ⟨g, 0, none⟩ 0 0 [] (by simp) (fun j u hu => by simp at hu) ⟨b, off, none⟩ m c news hl hnews (by omega) (by omega) (growslice_fits (by omega) (by simpa using hb))
  refine ls hF hg hdst hd (.inl ?_) fun a' hF' => k a' _ _ _ ((Ext.drew w).trans (Ext.alloc _ _)) hA ⟨by rw [hl], .inr ⟨w.drew.heap.size, grownCap w (0 + m) 0 e, _, rfl, rfl, by omega, grownCap_le_maxLen w (0 + m) 0 e (by unfold maxLen; omega), ?_, ?_⟩⟩ hF'
  · rw [exec_builtin hF ho (ev2 hs hx), BigFrame.builtin_append, Nat.zero_add] at *
    simp [hrun]
  · simp only [Array.size_append, List.size_toArray, size_zeroCells, hzs, hl, List.length_nil, Nat.zero_add, ← Nat.add_mul] at *
    congr 1; omega
  · simp only [Array.toList_append, List.append_assoc, List.nil_append]
    rw [← hl]; exact List.take_left
end
end Go.Proofs.YtpoebplhemimmaaGreatDoor
