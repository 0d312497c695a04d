/-
  The walks of rdata.Write, and of package wire's writer. Nothing is claimed here.
  Bytes of a text in new memory: behind the last one stands a mark; append to them. Nothing is claimed here.
-/
import Derived.Test.YtpoebplhemimmaaGreatDoorThrow
import Derived.Test.YtpoebplhemimmaaGreatDoorRd
import Derived.Test.YtpoebplhemimmaaGreatDoorRef5
import Derived.Lib.FrozenHead
namespace Go.Proofs.YtpoebplhemimmaaGreatDoor
open Go.RowKit
set_option linter.unusedVariables false
set_option linter.unusedSimpArgs false
set_option maxHeartbeats 1000000

def bitsL : List Nat := [15, 10, 9, 8, 7, 6, 5, 4]
def compL : List Nat := [2, 5, 6, 12, 15]
/-- What the packages keep. -/
structure GX (w : World) : Prop where
  errs : GW w
  bits : ∀ i k, bitsL[i]? = some k → w.cell? ⟨0, i, none⟩ = some (.int .i64 (k : Nat))
  comp : ∀ i k, compL[i]? = some k → w.cell? ⟨1, i, none⟩ = some (.int .u16 (k : Nat))
theorem GX.ext {w w' : World} (h : GX w) (he : Ext w w') : GX w' := ⟨h.errs.ext he, fun i k hk => he.cell (h.bits i k hk), fun i k hk => he.cell (h.comp i k hk)⟩

/-! ### Lists of blocks -/
theorem Hp.count {w0 w : World} {H H' : List (Nat × Obj)} (h : Hp w0 w H) (hp : ∀ z, (by classical exact H'.count z = H.count z)) : Hp w0 w H' := h.perm (by classical exact List.perm_iff_count.2 hp)
theorem Hp.flip {w0 w : World} {A B H : List (Nat × Obj)} (h : Hp w0 w (A ++ (B ++ H))) : Hp w0 w (B ++ (A ++ H)) := h.perm (by
  rw [← List.append_assoc, ← List.append_assoc]; exact List.perm_append_comm.append_right H)
theorem Hp.less {w0 w : World} {A B H : List (Nat × Obj)} (h : Hp w0 w (A ++ (B ++ H))) : Hp w0 w (A ++ H) := h.sub (List.Sublist.append_left (List.sublist_append_right B H) A)
theorem Hp.less2 {w0 w : World} {A B C H : List (Nat × Obj)} (h : Hp w0 w (A ++ (B ++ (C ++ H)))) : Hp w0 w (A ++ (B ++ H)) := h.sub (List.Sublist.append_left (List.Sublist.append_left (List.sublist_append_right C H) B) A)
theorem Hp.flip2 {w0 w : World} {A B C H : List (Nat × Obj)} (h : Hp w0 w (A ++ (B ++ (C ++ H)))) : Hp w0 w (A ++ (C ++ (B ++ H))) := h.perm ((by
  rw [← List.append_assoc, ← List.append_assoc]; exact List.perm_append_comm.append_right H : (C ++ (B ++ H)).Perm (B ++ (C ++ H))).append_left A)

theorem mem_cell {w0 w : World} {H : List (Nat × Obj)} {g j : Nat} {cur : Array Value} {e : TypeId} {fr : Nat × Nat} {v : Value} (hH : Hp w0 w H) (hi : (g, Obj.cells cur e fr) ∈ H) (hc : cur[j]? = some v) : w.cell? ⟨g, j, none⟩ = some v :=
  (cell_of_row w g j cur e fr (hH.own _ hi).1).trans hc

/-! ### Package rdata -/
section
variable {P : Program} {o : Oper} {a : Act} {w : World} {N dd : Nat} {L : List (Nat × Value)} {Ds : List Deferred}
/-- An array that a package keeps, as a slice. -/
theorem r_slice_arr (hF : FrD Ds N L a) {x : Operand} {t e : TypeId} {n size bytes b : Nat} (ho : o.op = .slice t x none none none) (hx : ev L x = some (.pointer (some ⟨b, 0, none⟩))) (hu : P.underlying t = some (.array n e)) (hti : TI P e size bytes) :
    Does P o a w (.slice (some ⟨b, 0, none⟩) n n) w := by
  obtain ⟨inf, z, h1, _, rfl, _, _⟩ := hti
  left; unfold execOp
  simp [ho, hF.ev hx, Instr.sliceAt, Instr.slice, Instr.sliceBounds, run_underlying hu, sizeOf, typeInfo, h1, Instr.sureAddr, asAddr]
  intro _; rfl
end
theorem has16_spec (l : List Nat) (k : Nat) (v : Value) (w0 : World) (hv : RSl w0 1 v l.length (l.map fun n => .int .u16 (n : Nat))) (hl : l.length < 1000) :
    Rets Tryz.prog 107 [v, .int .u16 (k : Nat)] w0 fun r w' => (∃ j : Int, r = .int .i64 j ∧ decide (0 ≤ j) = l.contains k) ∧ Ext w0 w' := by
  have hH := Hp.refl w0
  obtain ⟨hx, ad, cp, rfl, hnc, hcm, had⟩ := hv
  have hat : ∀ i (h : i < l.length), ∃ b off, ad = some ⟨b, off, none⟩ ∧ w0.cell? ⟨b, off + i, none⟩ = some (.int .u16 (l[i] : Nat)) := by
    intro i h
    rcases had with ⟨_, _, h0⟩ | ⟨b, off, e, hc⟩
    · omega
    · exact ⟨b, off, e, hc i _ (by simp [h])⟩
  refine rets_start Tryz.func107 rfl Tryz.ntmps107 rfl fun a Q0 hF hret hend => ?_
  simp only [argsFrom, Nat.zero_add, Nat.reduceAdd] at hF
  refine c_sr fun ops => ?_
  refine zm 1 hF rfl fun a hF => ?_
  refine c_n ?_
  replace hF := hF.sel [0, 1]
  simp only [ss, Nat.reduceBEq] at hF
  refine c_seq fun Q1 k1 t1 => ?_
  refine c_sr fun ops => ?_
  refine zm 1 hF rfl fun a hF => ?_
  refine zl hF rfl (r_len_sl hF rfl rfl Tryz.underlying192) fun a hF => ?_
  refine zm 1 hF rfl fun a hF => ?_
  refine c_n ?_
  replace hF := hF.sel [0, 1, 7, 8]
  simp only [ss, Nat.reduceBEq] at hF
  refine c_block fun Q2 t2 => ?_
  refine c_loop (fun n a w => ∃ i, n = l.length - i ∧ i ≤ l.length ∧ l.contains k = (l.drop i).contains k ∧ Fr 19 [(0, .slice ad l.length cp), (1, .int .u16 (k : Nat)), (7, .int .i64 (l.length : Nat)), (8, .int .i64 (i : Nat))] a ∧ Hp w0 w []) ?_ ?_
  ·
   exact ⟨_, 0, rfl, Nat.zero_le _, rfl, hF.keep [0, 1, 7, 8] rfl, hH⟩
  clear hH hF
  intro n a w hI Q3 k3 t3
  obtain ⟨i, hm, hi, hc, hF, hH⟩ := hI
  refine c_sr fun ops => ?_
  refine zb hF rfl rfl rfl (b_ltn _ _ _ _) fun a hF => ?_
  refine c_n ?_
  refine c_seq fun Q4 k4 t4 => ?_
  refine c_fi hF rfl (fun h9 => ?_) (fun h9 => ?_)
  ·
   try simp only [qq] at h9
   rw [List.drop_eq_nil_of_le (by omega)] at hc
   refine wp_exit (t4.exit (t3.exit (t2.here (?_))))
   refine k1 ?_
   refine c_sr fun ops => ?_
   refine zm 1 hF rfl fun a hF => ?_
   refine c_n ?_
   replace hF := hF.sel [4]
   simp only [ss, Nat.reduceBEq] at hF
   refine wp_ret (hret (ret1 hF Tryz.results107 rfl ?_))
   exact ⟨⟨_, rfl, by rw [hc]; rfl⟩, hH.below⟩
  try simp only [qq] at h9
  obtain ⟨b, off, e1, hcell⟩ := hat i h9
  rw [e1] at hF
  rw [List.drop_eq_getElem_cons h9] at hc
  refine wp_skip ?_
  refine k4 ?_
  refine c_seq fun Q5 k5 t5 => ?_
  refine c_block fun Q6 t6 => ?_
  refine c_sr fun ops => ?_
  refine zm 2 hF rfl fun a hF => ?_
  refine c_n ?_
  refine c_sr fun ops => ?_
  refine zm 3 hF rfl fun a hF => ?_
  refine zl hF rfl (r_ix1 hF _ rfl rfl rfl Tryz.underlying192 ti28 (by omega)) fun a hF => ?_
  refine zl hF rfl (r_load hF rfl rfl fl28 (hH.cell hcell)) fun a hF => ?_
  refine zb hF rfl rfl rfl (b_eqn _ _ _ _) fun a hF => ?_
  refine c_n ?_
  refine c_if hF rfl (fun h16 => ?_) (fun h16 => ?_)
  ·
   try simp only [qq] at h16
   refine c_sr fun ops => ?_
   refine zm 2 hF rfl fun a hF => ?_
   refine c_n ?_
   refine wp_ret (t6.ret (t5.ret (t3.ret (t2.ret (t1.ret (hret (ret1 hF Tryz.results107 rfl ?_)))))))
   exact ⟨⟨_, rfl, by rw [hc, List.contains_cons, h16]; simp⟩, hH.below⟩
  try simp only [qq] at h16
  refine wp_skip ?_
  refine t6.norm ?_
  refine k5 ?_
  refine c_reg fun ops => ?_
  refine zb hF rfl rfl rfl (b_addn _ _ 1 (by omega)) fun a hF => ?_
  refine zm 1 hF rfl fun a hF => ?_
  refine wpList_nil ?_
  refine k3 ?_
  rw [← e1] at hF
  refine ⟨l.length - (i + 1), by omega, i + 1, rfl, h9, ?_, hF.keep [0, 1, 7, 8] rfl, hH⟩
  rw [hc, List.contains_cons]
  have : (k == l[i]) = false := by simpa using h16
  rw [this, Bool.false_or]
theorem compressed_spec (k : Nat) (w0 : World) (hG : GX w0) : Rets Tryz.prog 88 [.int .u16 (k : Nat)] w0 fun v w' => v = .bool (compB k) ∧ Ext w0 w' := by
  have hH := Hp.refl w0
  have hcon : ∀ w, Ext w0 w → Rets Tryz.prog 96 [.slice (some ⟨1, 0, none⟩) 5 5, .int .u16 (k : Nat)] w fun v w' => v = .bool (compB k) ∧ Ext w w' := by
    intro w0 hE
    have hH := Hp.refl w0
    have hR : RSl w0 1 (.slice (some ⟨1, 0, none⟩) 5 5) compL.length (compL.map fun n => Value.int .u16 (n : Nat)) := by
      refine ⟨rfl, _, 5, rfl, Nat.le_refl _, by unfold maxLen; omega, .inr ⟨_, 0, rfl, fun j u hu => ?_⟩⟩
      rw [List.getElem?_map, Option.map_eq_some_iff] at hu
      obtain ⟨x, hx, rfl⟩ := hu
      rw [Nat.zero_add]; exact (hG.ext hE).comp j x hx
    refine rets_start Tryz.func96 rfl Tryz.ntmps96 rfl fun a Q0 hF hret hend => ?_
    simp only [argsFrom, Nat.zero_add, Nat.reduceAdd] at hF
    refine c_sr fun ops => ?_
    refine zm 1 hF rfl fun a hF => ?_
    refine c_n ?_
    replace hF := hF.sel [0, 1]
    simp only [ss, Nat.reduceBEq] at hF
    refine c_sr fun ops => ?_
    refine zm 2 hF rfl fun a hF => ?_
    refine zc hF rfl rfl fn107 (has16_spec compL k _ _ (hR.ext hH.below) (by decide)) ?_
    rintro _ w ⟨⟨j, rfl, hj⟩, hE1⟩ a hF
    replace hH := hH.ext hE1
    refine zb hF rfl rfl rfl (b_ge _ _ _ _) fun a hF => ?_
    refine zm 1 hF rfl fun a hF => ?_
    refine c_n ?_
    replace hF := hF.sel [4]
    simp only [ss, Nat.reduceBEq] at hF
    refine wp_ret (hret (ret1 hF Tryz.results96 rfl ?_))
    refine ⟨?_, hH.below⟩
    rw [hj]; simp [compL, compB, Bool.or_assoc]
  refine rets_start Tryz.func88 rfl Tryz.ntmps88 rfl fun a Q0 hF hret hend => ?_
  simp only [argsFrom, Nat.zero_add, Nat.reduceAdd] at hF
  refine c_sr fun ops => ?_
  refine zm 1 hF rfl fun a hF => ?_
  refine c_n ?_
  replace hF := hF.sel [0]
  simp only [ss, Nat.reduceBEq] at hF
  refine c_sr fun ops => ?_
  refine zl hF rfl (r_slice_arr hF rfl rfl Tryz.underlying193 ti28) fun a hF => ?_
  refine zm 1 hF rfl fun a hF => ?_
  refine zc hF rfl rfl fn96 (hcon _ hH.below) ?_
  rintro _ w ⟨rfl, hE⟩ a hF
  replace hH := hH.ext hE
  refine zm 1 hF rfl fun a hF => ?_
  refine c_n ?_
  replace hF := hF.sel [2]
  simp only [ss, Nat.reduceBEq] at hF
  refine wp_ret (hret (ret1 hF Tryz.results88 rfl ?_))
  exact ⟨rfl, hH.below⟩
/-- Names in data may be. -/
theorem doParts_names {msg : Bs} : ∀ (xs : List Part) (p : Nat) (ps : Pieces), (∀ q ∈ ps, q.2 = true → mayB q.1 = true) → ∀ q ∈ (doParts msg true xs p ps).2.2, q.2 = true → mayB q.1 = true
  | [], _, _, h => h
  | x :: xs, p, ps, h => by
    have h1 : ∀ q ∈ (doPart msg true p ps x).2.2, q.2 = true → mayB q.1 = true := by
      cases x with
      | fixed n =>
        simp only [doPart]
        split
        · exact h
        · intro q hq h2
          rcases List.mem_append.1 hq with hq | hq
          · exact h q hq h2
          · rw [List.mem_singleton.1 hq] at h2; cases h2
      | named =>
        simp only [doPart]
        split
        · exact h
        · rename_i h0
          split
          · exact h
          · intro q hq h2
            rcases List.mem_append.1 hq with hq | hq
            · exact h q hq h2
            · rw [List.mem_singleton.1 hq]; exact readAt_may (Decidable.not_not.1 h0)
      | texts =>
        obtain ⟨t, e1, e2⟩ := textsG_grow (msg := msg) (msg.length + 1) p ps
        intro q hq h2
        rw [show (doPart msg true p ps .texts).2.2 = ps ++ t from e1] at hq
        rcases List.mem_append.1 hq with hq | hq
        · exact h q hq h2
        · rw [e2 q hq] at h2; cases h2
      | rest =>
        intro q hq h2
        rcases List.mem_append.1 hq with hq | hq
        · exact h q hq h2
        · rw [List.mem_singleton.1 hq] at h2; cases h2
    rw [doParts_step]
    split
    · exact doParts_names xs _ _ h1
    · exact h1
theorem pcs_names {kind : Nat} {data : Bs} : ∀ q ∈ pcs kind data, q.2 = true → mayB q.1 = true := by
  unfold pcs readD
  split
  · intro q hq; exact (List.not_mem_nil hq).elim
  · unfold readE
    split
    · split
      · intro q hq; exact (List.not_mem_nil hq).elim
      · exact doParts_names _ _ _ (fun q hq => (List.not_mem_nil hq).elim)
    · intro q hq; exact (List.not_mem_nil hq).elim
theorem flatP_cons (q : Bs × Bool) (l : Pieces) : flatP (q :: l) = q.1 ++ flatP l := by simp [flatP]
theorem pcs_len (kind : Nat) (data : Bs) : (flatP (pcs kind data)).length ≤ data.length := readD_flat kind data
theorem dataW_named (c : Bool) (s : Bs) (ps : Pieces) (pos : Nat) (t : Tab) : dataW c ((s, true) :: ps) pos t = ((nmW c c s pos t).1 ++ (dataW c ps (pos + (nmW c c s pos t).1.length) (nmW c c s pos t).2).1, (dataW c ps (pos + (nmW c c s pos t).1.length) (nmW c c s pos t).2).2) := rfl
theorem dataW_plain (c : Bool) (s : Bs) (ps : Pieces) (pos : Nat) (t : Tab) : dataW c ((s, false) :: ps) pos t = (s ++ (dataW c ps (pos + s.length) t).1, (dataW c ps (pos + s.length) t).2) := rfl
theorem dwrite_spec {w0 w1 : World} {H BT : List (Nat × Obj)} {g : Nat} {tb : Tab} {v : Value} {b data : Bs} {kind : Nat} (hG : GX w0) (hT : TabB tb g BT) (hH0 : Hp w0 w1 (BT ++ H)) (hv : RSl w1 1 v b.length (bytV b)) (hb : b.length < 400000) (hd : data.length < 400000)
    (hn : dmayB kind data = true) (hTS : TabS tb) :
    Rets Tryz.prog 69 [v, ptr g, .int .u16 (kind : Nat), .string (mk data)] w1 fun r w' => ∃ rv B BT', r = .tuple #[rv, .int .i64 0] ∧ Hp w0 w' (B ++ (BT' ++ H)) ∧
      Sl 5 1 B rv (b ++ (dataW (compB kind) (pcs kind data) b.length tb).1).length (bytV (b ++ (dataW (compB kind) (pcs kind data) b.length tb).1)) ∧
      TabB (dataW (compB kind) (pcs kind data) b.length tb).2 g BT' ∧ TabS (dataW (compB kind) (pcs kind data) b.length tb).2 := by
  have hH := hH0
  have hr0 : (readD data 0 kind true).1 = 0 := of_decide_eq_true hn
  have hnm := pcs_names (kind := kind) (data := data)
  have hfl := pcs_len kind data
  refine rets_start Tryz.func69 rfl Tryz.ntmps69 rfl fun a Q0 hF hret hend => ?_
  simp only [argsFrom, Nat.zero_add, Nat.reduceAdd] at hF
  refine c_sr fun ops => ?_
  refine zm 2 hF rfl fun a hF => ?_
  refine c_n ?_
  replace hF := hF.sel [0, 1, 2, 3]
  simp only [ss, Nat.reduceBEq] at hF
  refine c_seq fun Q1 k1 t1 => ?_
  refine c_sr fun ops => ?_
  refine zm 1 hF rfl fun a hF => ?_
  refine zb hF rfl rfl rfl (b_peq Tryz.underlying91) fun a hF => ?_
  refine c_n ?_
  replace hF := hF.sel [0, 1, 2, 3, 16]
  simp only [ss, Nat.reduceBEq] at hF
  refine c_if hF rfl (fun h16 => ?_) (fun h16 => ?_)
  ·
   try simp only [qq] at h16
   exact absurd h16 (by simp)
  try simp only [qq] at h16
  refine wp_skip ?_
  refine k1 ?_
  refine c_sr fun ops => ?_
  refine zm 2 hF rfl fun a hF => ?_
  refine zc hF rfl rfl fn76 (read_spec data 0 kind true (Nat.zero_le _) (by omega) _ (hG.ext hH.below).errs) ?_
  rintro _ w ⟨sv, BP, rfl, hB, hP⟩ a hF
  replace hH := hH.join hB; replace hv := hv.ext hB.below
  refine zm 5 hF rfl fun a hF => ?_
  refine c_n ?_
  replace hF := hF.sel [0, 1, 2, 10, 11]
  simp only [ss, Nat.reduceBEq] at hF
  refine c_seq fun Q2 k2 t2 => ?_
  refine c_sr fun ops => ?_
  refine zm 1 hF rfl fun a hF => ?_
  refine zb hF rfl rfl rfl (b_nen _ _ _ 0) fun a hF => ?_
  refine c_n ?_
  replace hF := hF.sel [0, 1, 2, 10, 24]
  simp only [ss, Nat.reduceBEq] at hF
  refine c_if hF rfl (fun h24 => ?_) (fun h24 => ?_)
  ·
   try simp only [qq] at h24
   exact absurd hr0 h24
  try simp only [qq] at h24
  refine wp_skip ?_
  refine k2 ?_
  refine c_sr fun ops => ?_
  refine zm 1 hF rfl fun a hF => ?_
  refine zc hF rfl rfl fn87 (cloneB_spec hv (bytV_one _) (by omega)) ?_
  rintro v26 w ⟨B, hB2, hS⟩ a hF
  replace hH := hH.join hB2
  refine zm 1 hF rfl fun a hF => ?_
  refine c_n ?_
  replace hF := hF.sel [1, 2, 10, 12]
  simp only [ss, Nat.reduceBEq] at hF
  refine c_seq fun Q3 k3 t3 => ?_
  change Sl 168 2 BP sv (pcs kind data).length (pcV (pcs kind data)) at hP
  generalize hq : pcs kind data = q at *
  obtain ⟨ad, cp, hsv⟩ := hP.shape
  subst hsv
  refine c_sr fun ops => ?_
  refine zm 1 hF rfl fun a hF => ?_
  refine zl hF rfl (r_len_sl hF rfl rfl Tryz.underlying147) fun a hF => ?_
  refine zm 1 hF rfl fun a hF => ?_
  refine c_n ?_
  replace hF := hF.sel [1, 2, 12, 27, 28, 29]
  simp only [ss, Nat.reduceBEq] at hF
  refine c_block fun Q4 t4 => ?_
  refine c_loop (fun n a w => ∃ i bi ti B BT v12, n = q.length - i ∧ i ≤ q.length ∧ bi.length + (flatP (q.drop i)).length ≤ b.length + (flatP q).length ∧ Fr 53 [(1, ptr g), (2, .int .u16 (kind : Nat)), (12, v12), (27, .slice ad q.length cp), (28, .int .i64 (q.length : Nat)), (29, .int .i64 (i : Nat))] a ∧ Hp w0 w (B ++ (BT ++ (BP ++ H))) ∧ Sl 5 1 B v12 bi.length (bytV bi) ∧ TabB ti g BT ∧ TabS ti ∧ b ++ (dataW (compB kind) q b.length tb).1 = bi ++ (dataW (compB kind) (q.drop i) bi.length ti).1 ∧ (dataW (compB kind) q b.length tb).2 = (dataW (compB kind) (q.drop i) bi.length ti).2) ?_ ?_
  ·
   exact ⟨_, 0, b, tb, B, BT, _, rfl, Nat.zero_le _, by simp, hF.keep [1, 2, 12, 27, 28, 29] rfl, hH.flip2, hS, hT, hTS, rfl, rfl⟩
  clear hH hF hS hT hTS hH0 hB hB2 hv
  intro n a w hI Q5 k5 t5
  obtain ⟨i, bi, ti, B, BT, v12, hm, hi, hbl, hF, hH, hS, hT, hTS, e1, e2⟩ := hI
  refine c_sr fun ops => ?_
  refine zb hF rfl rfl rfl (b_ltn _ _ _ _) fun a hF => ?_
  refine c_n ?_
  refine c_seq fun Q6 k6 t6 => ?_
  refine c_fi hF rfl (fun h30 => ?_) (fun h30 => ?_)
  ·
   try simp only [qq] at h30
   rw [List.drop_eq_nil_of_le (by omega)] at e1 e2
   simp only [dataW, List.append_nil] at e1 e2
   refine wp_exit (t6.exit (t5.exit (t4.here (?_))))
   refine k3 ?_
   refine c_sr fun ops => ?_
   refine zm 3 hF rfl fun a hF => ?_
   refine c_n ?_
   replace hF := hF.sel [8, 9]
   simp only [ss, Nat.reduceBEq] at hF
   refine wp_ret (hret (ret2 hF Tryz.results69 rfl rfl ?_))
   rw [e1, e2]
   exact ⟨_, B, BT, rfl, hH.less2, hS, hT, hTS⟩
  try simp only [qq] at h30
  obtain ⟨s, nm, hqi⟩ : ∃ s nm, q[i] = (s, nm) := ⟨_, _, rfl⟩
  have hdr : q.drop i = (s, nm) :: q.drop (i + 1) := by rw [List.drop_eq_getElem_cons h30, hqi]
  have hsm : nm = true → mayB s = true := fun h => hnm (s, nm) (by rw [← hqi]; exact List.getElem_mem h30) h
  rw [hdr] at hbl e1 e2
  rw [flatP_cons, List.length_append] at hbl
  simp only at hbl
  obtain ⟨gp, cap, cur, hvp, hBP, hc1, hc2, hc3, hc4⟩ := hP.open (by omega)
  cases hvp
  have hmx : i + 1 ≤ 9223372036854775807 := by unfold maxLen at hc2; omega
  have hpc := (hH.own (gp, _) (List.mem_append_right _ (List.mem_append_right _ (List.mem_append_left _ (by rw [hBP]; exact List.mem_singleton.2 rfl))))).1
  have hcc : ∀ j u, ([.string (mk s), .bool nm] : List Value)[j]? = some u → w.cell? ⟨gp, i * 2 + j, none⟩ = some u := fun j u hu => (Sl.cell hpc _).trans (take_get hc4 (pcV_get h30 j u (by rw [hqi]; exact hu)))
  refine wp_skip ?_
  refine k6 ?_
  refine c_seq fun Q7 k7 t7 => ?_
  refine c_block fun Q8 t8 => ?_
  refine c_sr fun ops => ?_
  refine zl hF rfl (r_ixown hF _ rfl rfl rfl Tryz.underlying147 ti168 (by omega)) fun a hF => ?_
  refine zl hF rfl (r_loadagg hF rfl rfl Tryz.underlying168 ti168 rfl (hcc)) fun a hF => ?_
  refine ls_alloc hF hH rfl rfl rfl rfl zv168 ?_
  intro a w g9_2 hH hE hF
  refine ls_storeagg 0 hF hH rfl rfl rfl rfl rfl ti168 rfl (rfl) (rfl) (by simp [Value.oneCell']) ?_
  intro w hH
  refine c_n ?_
  refine c_sr fun ops => ?_
  refine zl hF rfl (r_fieldaddr0 hF rfl rfl fd168_1) fun a hF => ?_
  refine zl hF rfl (r_load hF rfl rfl fl4 (own_cell (i := 0) (v := .bool nm) hH rfl rfl)) fun a hF => ?_
  refine c_n ?_
  refine c_fi hF rfl (fun h34 => ?_) (fun h34 => ?_)
  ·
   try simp only [qq] at h34
   subst h34
   refine c_reg fun ops => ?_
   refine zm 1 hF rfl fun a hF => ?_
   refine zl hF rfl (r_fieldaddr0 hF rfl rfl fd168_0) fun a hF => ?_
   refine zl hF rfl (r_load hF rfl rfl fl9 (own_cell (i := 0) (v := .string (mk s)) hH rfl rfl)) fun a hF => ?_
   replace hH := hH.drop
   refine ls_appendstr hF hH rfl rfl rfl rfl rfl rfl Tryz.underlying26 Tryz.underlying9 ti5 zv5 hS (by omega) ?_
   intro a v12_3 w B12_3 hH hS hF
   have hsz : bi.length + s.length = (bi ++ s).length := by simp
   rw [← bytV_append, hsz] at hS
   refine zm 1 hF rfl fun a hF => ?_
   refine wpList_nil ?_
   refine t8.norm ?_
   refine k7 ?_
   refine c_reg fun ops => ?_
   refine zb hF rfl rfl rfl (b_addn _ _ 1 (by omega)) fun a hF => ?_
   refine zm 1 hF rfl fun a hF => ?_
   refine wpList_nil ?_
   refine k5 ?_
   first
     | (have hle := nmW_len (cmp := compB kind) (kn := compB kind) (hsm rfl) bi.length ti
        rw [dataW_named] at e1 e2
        exact ⟨q.length - (i + 1), by omega, i + 1, bi ++ (nmW (compB kind) (compB kind) s bi.length ti).1, _, B2, BT2, _, rfl, h30, by rw [List.length_append]; omega, hF.keep [1, 2, 12, 27, 28, 29] rfl, hH.less2.less2, hS2, hT2, hTS2, by rw [e1, List.length_append]; simp, by rw [e2, List.length_append]⟩)
     | (rw [dataW_plain] at e1 e2
        exact ⟨q.length - (i + 1), by omega, i + 1, bi ++ s, ti, _, BT, _, rfl, h30, by rw [List.length_append]; omega, hF.keep [1, 2, 12, 27, 28, 29] rfl, hH, hS, hT, hTS, by rw [e1, List.length_append]; simp, by rw [e2, List.length_append]⟩)
  try simp only [qq] at h34
  subst h34
  refine c_planF hF [] [0, 1, 2, 4, 6] [.p 3, .o 5, .o 7] [.o 8, .p 9, .p 10, .p 11] [12] [0, 1, 2, 4, 6, 3, 5, 7] (fun w => w.cell? ⟨g9_2, 0, none⟩ = some (.string (mk s))) (by kernel_rfl) (by kernel_rfl) rfl ?_
  refine ps hF rfl rfl rfl rfl (fun w => r_move hF rfl rfl) fun a hF => ?_
  refine ps hF rfl rfl rfl rfl (fun w => r_move hF rfl rfl) fun a hF => ?_
  refine ps hF rfl rfl rfl rfl (fun w => r_fieldaddr0 hF rfl rfl fd168_0) fun a hF => ?_
  refine ps hF rfl rfl rfl rfl (fun w => r_move hF rfl rfl) fun a hF => ?_
  refine ps hF rfl rfl rfl rfl (fun w => r_move hF rfl rfl) fun a hF => ?_
  refine pl_start fun w hE => ?_
  replace hH := hH.ext hE
  refine ⟨own_cell (i := 0) hH rfl rfl, ?_⟩
  refine pp hF rfl rfl rfl rfl (fun w hH => r_load hF rfl rfl fl9 (hH)) fun a hF => ?_
  refine po ?_
  refine zc hF rfl rfl fn88 (compressed_spec kind _ (hG.ext hH.below)) ?_
  rintro _ w ⟨rfl, hE⟩ a hF
  replace hH := hH.ext hE
  refine wpList_nil (po_end (own_cell (i := 0) hH rfl rfl) ?_)
  refine po ?_
  refine zc hF rfl rfl fn88 (compressed_spec kind _ (hG.ext hH.below)) ?_
  rintro _ w ⟨rfl, hE⟩ a hF
  replace hH := hH.ext hE
  refine wpList_nil (po_end (own_cell (i := 0) hH rfl rfl) ?_)
  refine pt ?_
  refine to ?_
  replace hH : Hp w0 w ([_] ++ (B ++ (BT ++ (BP ++ H)))) := hH
  refine zc hF rfl rfl fn67 (tput_spec (cmp := compB kind) (kn := compB kind) (b := bi) hT hH.flip2.flip (hS.rsl hH fun p hp => List.mem_append_right _ (List.mem_append_left _ hp)) (by omega) (hsm rfl) hTS) ?_
  rintro _ w ⟨v44, B2, BT2, rfl, hH, hS2, hT2, hTS2⟩ a hF
  refine wpList_nil (to_end ?_)
  refine tp hF rfl rfl rfl rfl (fun w => r_move hF rfl rfl) fun a hF => ?_
  refine tp hF rfl rfl rfl rfl (fun w => r_extract hF rfl rfl rfl) fun a hF => ?_
  refine tp hF rfl rfl rfl rfl (fun w => r_extract hF rfl rfl rfl) fun a hF => ?_
  refine tt ?_
  refine zm 1 hF rfl fun a hF => ?_
  refine pt_end ?_
  refine t8.norm ?_
  refine k7 ?_
  refine c_reg fun ops => ?_
  refine zb hF rfl rfl rfl (b_addn _ _ 1 (by omega)) fun a hF => ?_
  refine zm 1 hF rfl fun a hF => ?_
  refine wpList_nil ?_
  refine k5 ?_
  first
    | (have hle := nmW_len (cmp := compB kind) (kn := compB kind) (hsm rfl) bi.length ti
       rw [dataW_named] at e1 e2
       exact ⟨q.length - (i + 1), by omega, i + 1, bi ++ (nmW (compB kind) (compB kind) s bi.length ti).1, _, B2, BT2, _, rfl, h30, by rw [List.length_append]; omega, hF.keep [1, 2, 12, 27, 28, 29] rfl, hH.less2.less2, hS2, hT2, hTS2, by rw [e1, List.length_append]; simp, by rw [e2, List.length_append]⟩)
    | (rw [dataW_plain] at e1 e2
       exact ⟨q.length - (i + 1), by omega, i + 1, bi ++ s, ti, _, BT, _, rfl, h30, by rw [List.length_append]; omega, hF.keep [1, 2, 12, 27, 28, 29] rfl, hH, hS, hT, hTS, by rw [e1, List.length_append]; simp, by rw [e2, List.length_append]⟩)
  -- UNUSED HOOK keep 11.8
end Go.Proofs.YtpoebplhemimmaaGreatDoor
namespace Go.Proofs.YtpoebplhemimmaaGreatDoor
variable {Ds : List Deferred}
open Go.RowKit
set_option linter.unusedVariables false
set_option linter.unusedSimpArgs false
set_option maxHeartbeats 1000000

theorem run_storeCells_atM (P : Program) (g o : Nat) (t : TypeId) (fz : Nat × Nat) : ∀ (vs : List Value) (i : Nat) (cur : Array Value) (w : World), w.heap[g]? = some (.cells cur t fz) → cur.size ≤ fz.1 → o + i + vs.length ≤ cur.size → (∀ v ∈ vs, v.oneCell' = true) →
    (storeCells ⟨g, o, none⟩ vs i).run P w = .ok () (w.setRow g (cur.toList.take (o + i) ++ vs ++ cur.toList.drop (o + i + vs.length)).toArray)
  | [], i, cur, w, hg, _, _, _ => by
    simp only [storeCells, List.append_nil, List.length_nil, Nat.add_zero, List.take_append_drop, Array.toArray_toList]
    rw [setRow_self w g cur t fz hg]
    rfl
  | v :: rest, i, cur, w, hg, hfz, hl, h1 => by
    have hi : o + i < cur.size := by simp at hl; omega
    have hadd : (⟨g, o, none⟩ : Addr).add i = ⟨g, o + i, none⟩ := by unfold Addr.add; split <;> simp_all
    have hcell : w.cell? ⟨g, o + i, none⟩ = some cur[o + i] := by simp [World.cell?, hg, hi]
    have hfro : w.frozen? ⟨g, o + i, none⟩ = false := by
      obtain ⟨lo, hi'⟩ := fz
      simp only [World.frozen?, hg, Bool.and_eq_false_iff, decide_eq_false_iff_not]
      left
      simp only at hfz
      omega
    have hst : (store ((⟨g, o, none⟩ : Addr).add i) v).run P w = .ok () (w.setRow g (cur.setIfInBounds (o + i) v)) := by
      rw [hadd, run_store P w _ v _ (h1 v (by simp)), hcell]
      simp [hfro, setCell_eq_setRow w g (o + i) cur t fz v hg]
    have ih := run_storeCells_atM P g o t fz rest (i + 1) (cur.setIfInBounds (o + i) v) (w.setRow g (cur.setIfInBounds (o + i) v)) (setRow_heap w g cur _ t _ hg) (by simpa using hfz) (by simp at hl ⊢; omega) (fun x hx => h1 x (by simp [hx]))
    simp only [storeCells, Sem.run_bind, hst, Result.andThen_ok, ih, setRow_setRow]
    congr 3
    have e := list_seg_step cur.toList (o + i) v rest (by simp at hl ⊢; omega)
    simpa [Array.toList_setIfInBounds, Nat.add_assoc] using e
/-- Bytes of one's own, with a mark behind them or without one. -/
def SlB (e : TypeId) (B : List (Nat × Obj)) (v : Value) (n : Nat) (xs : List Value) : Prop :=
  Sl e 1 B v n xs ∨ ∃ g cap cur, v = .slice (some ⟨g, 0, none⟩) n cap ∧ B = [(g, .cells cur e (cap, cap + 1))] ∧ n ≤ cap ∧ cap ≤ maxLen ∧ cur.size = cap ∧ cur.toList.take n = xs ∧ xs.length = n
theorem SlB.shape {e : TypeId} {B : List (Nat × Obj)} {v : Value} {n : Nat} {xs : List Value} (h : SlB e B v n xs) : ∃ ad cap, v = .slice ad n cap := by
  rcases h with h | ⟨g, cap, cur, hv, _⟩
  · exact h.shape
  · exact ⟨_, _, hv⟩
theorem SlB.one {e : TypeId} {B : List (Nat × Obj)} {v : Value} {n : Nat} {xs : List Value} (h : SlB e B v n xs) : v.oneCell' = true := by
  obtain ⟨_, _, rfl⟩ := h.shape; rfl
theorem SlB.rsl {w0 w : World} {H B : List (Nat × Obj)} {e : TypeId} {n : Nat} {v : Value} {xs : List Value} (h : SlB e B v n xs) (hH : Hp w0 w H) (hB : ∀ p ∈ B, p ∈ H) : RSl w 1 v n xs := by
  rcases h with h | ⟨g, cap, cur, rfl, rfl, h1, h2, h3, h4, h5⟩
  · exact h.rsl hH hB
  · refine ⟨by rw [h5, Nat.mul_one], _, cap, rfl, h1, h2, .inr ⟨g, 0, rfl, fun j u hu => ?_⟩⟩
    rw [Nat.zero_add]
    exact (cell_of_row w g j cur e _ (hH.own _ (hB _ (List.mem_singleton.2 rfl))).1).trans (take_get h4 hu)
section
variable {P : Program} {ops : Array Oper} {Q : Exit → Act → World → Prop} {rest : List Oper} {o : Oper} {a : Act} {w w0 : World} {N dd : Nat} {L : List (Nat × Value)} {H B : List (Nat × Obj)}
theorem append_ownB_str {t u ty e : TypeId} {n : Nat} {v : Value} {xs : List Value} {l : List UInt8}
    (hH : Hp w0 w (B ++ H)) (hS : SlB e B v n xs) (ht : P.underlying t = some (.slice e)) (hu : P.underlying u = some .string) (hti : TI P e 1 1) (hz : ZV P e (.int .u8 0)) (hb : n + l.length ≤ 140737488355328) :
    ∃ v' w' B', (Builtin.append_ #[t, u] ty #[v, .string (mk l)]).run P w = .ok v' w' ∧ Hp w0 w' (B' ++ H) ∧ SlB e B' v' (n + l.length) (xs ++ bytV l) := by
  rcases hS with hS | ⟨g, cap, cur, rfl, rfl, hnc, hcap, hcs, htake, hxl⟩
  · obtain ⟨v', w', B', h1, h2, h3⟩ := append_own_str (ty := ty) hH hS ht hu hti hz hb
    exact ⟨v', w', B', h1, h2, .inl h3⟩
  obtain ⟨i, z', hi, hz', hsize, hby, _⟩ := hti
  obtain ⟨i2, hi2, hz2⟩ := hz
  obtain rfl : i = i2 := Option.some.inj (hi.symm.trans hi2)
  obtain rfl : z' = .int .u8 0 := Option.some.inj (hz'.symm.trans hz2)
  have hg := (hH.own (g, _) (List.mem_append_left _ (List.mem_singleton.2 rfl))).1
  simp only at hg
  have hlen : (xs ++ bytV l).length = n + l.length := by rw [List.length_append, hxl, bytV_length]
  by_cases hroom : n + l.length ≤ cap
  · have hf := Lib.run_firstCells_string (P := P) w 1 (mk l)
    have hst := run_storeCells_atM P g n e (cap, cap + 1) (Lib.strCells (mk l)) 0 cur w hg (by omega) (by rw [strCells_mk, bytV_length]; omega) (by rw [strCells_mk]; exact bytV_one l)
    simp only [Nat.add_zero, strCells_mk, bytV_length] at hst
    refine ⟨.slice (some ⟨g, 0, none⟩) (n + l.length) cap, w.setRow g (cur.toList.take n ++ bytV l ++ cur.toList.drop (n + l.length)).toArray, [(g, .cells (cur.toList.take n ++ bytV l ++ cur.toList.drop (n + l.length)).toArray e (cap, cap + 1))], ?_, ?_, .inr ⟨g, cap, _, rfl, rfl, hroom, hcap, ?_, ?_, hlen⟩⟩
    · rw [strCells_mk, size_mk] at hf
      simp [Builtin.append_, run_underlying ht, run_underlying hu, sizeOf, typeInfo, hi, hsize, Builtin.lenOf, hroom, hf, Addr.add_lit, hst]
    · exact hH.writeAt (i := 0) rfl (setRow_heap w g cur _ e _ hg) (by simp) ⟨rfl, rfl, rfl⟩ fun k hk => setRow_other w g k _ hk
    · simp only [List.size_toArray, List.length_append, List.length_take, List.length_drop, Array.length_toList, bytV_length]
      omega
    · rw [htake, ← hlen]; exact List.take_left
  · have holds : ∀ j u, xs[j]? = some u → w.cell? ((⟨g, 0, none⟩ : Addr).add j) = some u := fun j u hu => by
      rw [Addr.add_lit, Nat.zero_add]
      exact (cell_of_row w g j cur e _ hg).trans (take_get htake hu)
    have hmax : n + l.length ≤ maxLen := by unfold maxLen; omega
    have hr := Lib.run_append_grow_string (P := P) w t u ty e i (.int .u8 0) ht hu hi hz' ⟨g, 0, none⟩ n cap xs (by rw [hsize, Nat.mul_one]; exact hxl) holds (mk l) (by simp; omega) (by simp; omega) (by rw [hby]; exact growslice_fits (by simp; omega) (by simp; omega))
    have hge := grownCap_ge w (n + l.length) cap e
    refine ⟨_, _, [(w.heap.size, _)], hr, ((hH.sub (List.sublist_append_right _ H)).drew).alloc _, .inl ⟨by rw [hlen, Nat.mul_one], .inr ⟨_, _, _, rfl, rfl, hge, grownCap_le_maxLen w (n + l.length) cap e hmax, ?_, ?_⟩⟩⟩
    · have hz1 : (Value.int IntKind.u8 0).cells.size = 1 := rfl
      simp only [Array.size_append, List.size_toArray, size_zeroCells, hz1, hxl, strCells_mk, bytV_length, size_mk]
      omega
    · simp only [Array.toList_append, List.append_assoc, strCells_mk]
      rw [← List.append_assoc, Nat.mul_one, ← hlen]
      exact List.take_left
theorem ls_appendstrB {s x : Operand} {t u e : TypeId} {n : Nat} {v : Value} {xs : List Value} {l : List UInt8} (hF : FrD Ds N L a) (hH : Hp w0 w (B ++ H)) (hg : o.guard = none) (hdst : o.dst = some dd) (hd : Nat.blt dd N = true)
    (ho : o.op = .call { callee := .builtin .append, args := #[s, x], argTypes := #[t, u] }) (hs : ev L s = some v) (hx : ev L x = some (.string (mk l)))
    (ht : P.underlying t = some (.slice e)) (hu : P.underlying u = some .string) (hti : TI P e 1 1) (hz : ZV P e (.int .u8 0)) (hS : SlB e B v n xs) (hb : n + l.length ≤ 140737488355328)
    (k : ∀ a' v' w' B', Hp w0 w' (B' ++ H) → SlB e B' v' (n + l.length) (xs ++ bytV l) → FrD Ds N ((dd, v') :: L) a' → wpList P ops Q rest a' w') : wpList P ops Q (o :: rest) a w := by
  obtain ⟨v', w', B', hr, h2, h3⟩ := append_ownB_str (ty := o.type) hH hS ht hu hti hz hb
  refine ls hF hg hdst hd (v := v') (w' := w') (.inl ?_) fun a' hF' => k a' v' w' B' h2 h3 hF'
  rw [exec_builtin hF ho (ev2 hs hx)]
  rw [BigFrame.builtin_append]
  simp [hr]
end
end Go.Proofs.YtpoebplhemimmaaGreatDoor
