/-
  Equality of records, and the walk of hustingsref08.SameRecords. Nothing is claimed here.
-/
import Derived.Test.YtcelgjabccgnmaaGreatDoorLaw8a
import Derived.Laws.StructEq
import Derived.ChangeKeysEq
namespace Go.Proofs.YtcelgjabccgnmaaGreatDoor
open Go.RowKit
set_option linter.unusedVariables false
set_option linter.unusedSimpArgs false
set_option maxHeartbeats 1000000

section
variable {P : Program} {o : Oper} {a : Act} {w w' : World} {N : Nat} {L : List (Nat × Value)} {v : Value}
theorem r_binG {x y : Operand} {op : BinOp} {t ty : TypeId} {u1 u2 : Value} (hF : Fr N L a) (ho : o.op = .binOp op t x y ty) (hx : ev L x = some u1) (hy : ev L y = some u2)
    (hg : (eqGuard op t x y u1 u2).run P w = .ok () w) (hr : (binOp op t u1 u2).run P w = .ok v w) : Does P o a w v w := by
  left; unfold execOp; simp [ho, hF.ev hx, hF.ev hy, hg, hr]
theorem eqF_step {d : Nat} {f : Field} {fs : List Field} {xs ys : Array Value} {a b : Value} {r : Bool} (hn : f.name ≠ "_") (hp : P.plainKey f.type = true) (hx : xs[f.offset]? = some a) (hy : ys[f.offset]? = some b)
    (he : (Op.equalIn d f.type a b).run P w = .ok r w) : (Op.eqFields d xs ys (f :: fs)).run P w = if r then (Op.eqFields d xs ys fs).run P w else .ok false w := by
  rw [Op.eqFields, if_pos hn]
  simp only [Sem.run_bind, run_part_plain _ hp hx, run_part_plain _ hp hy, Result.andThen_ok, he]
  cases r <;> simp
end
deriving instance DecidableEq for Rec
def recEq (r s : Rec) : Bool := r.name == s.name && (r.kind == s.kind && (r.cls == s.cls && (r.ttl == s.ttl && r.data == s.data)))
theorem recEq_iff {r s : Rec} : recEq r s = decide (r = s) := by
  rw [Bool.eq_iff_iff]
  obtain ⟨a, b, c, d, e⟩ := r
  obtain ⟨a', b', c', d', e'⟩ := s
  simp [recEq]
theorem b_recne {w : World} (r s : Rec) : (binOp .neq 38 (.agg (recV r).toArray) (.agg (recV s).toArray)).run Tryz.prog w = .ok (.bool (!decide (r = s))) w := by
  have hS : Program.underlying Tryz.prog 38 = some (.struct (Program.fieldsOf Tryz.prog 38)) := by kernel_rfl
  rw [run_neq_struct, show (10000 : Nat) = (9998 + 1) + 1 from rfl, run_equalIn_agg w (9998 + 1) _ _ _ hS (by kernel_rfl), ← recEq_iff]
  simp only [Program.fieldsOf, Tryz.underlying38]
  have h1 : ∀ (x y : Bs), (Op.equalIn (9998 + 1) 9 (.string (mk x)) (.string (mk y))).run Tryz.prog w = .ok (x == y) w := fun x y => by
    rw [run_equalIn_string w 9998 _ _ _ Tryz.underlying9]; simp
  have he : ∀ (x y : Nat), ((x : Int) == (y : Int)) = (x == y) := fun x y => by rw [Bool.eq_iff_iff]; simp; omega
  have h2 : ∀ (x y : Nat), (Op.equalIn (9998 + 1) 23 (.int .u16 (x : Nat)) (.int .u16 (y : Nat))).run Tryz.prog w = .ok (x == y) w := fun x y => by
    rw [run_equalIn_int w 9998 _ _ _ _ _ Tryz.underlying23, he]
  have h3 : ∀ (x y : Nat), (Op.equalIn (9998 + 1) 24 (.int .u32 (x : Nat)) (.int .u32 (y : Nat))).run Tryz.prog w = .ok (x == y) w := fun x y => by
    rw [run_equalIn_int w 9998 _ _ _ _ _ Tryz.underlying24, he]
  refine congrArg (fun q => Result.andThen q fun b w' => Result.ok (Value.bool (!b)) w') (?_ : _ = Result.ok (recEq r s) w)
  unfold recEq
  refine Eq.trans (eqF_step (by decide) (by kernel_rfl) rfl rfl (h1 _ _)) ?_
  cases r.name == s.name
  · rfl
  refine (if_pos rfl).trans ?_
  refine Eq.trans (eqF_step (by decide) (by kernel_rfl) rfl rfl (h2 _ _)) ?_
  cases r.kind == s.kind
  · rfl
  refine (if_pos rfl).trans ?_
  refine Eq.trans (eqF_step (by decide) (by kernel_rfl) rfl rfl (h2 _ _)) ?_
  cases r.cls == s.cls
  · rfl
  refine (if_pos rfl).trans ?_
  refine Eq.trans (eqF_step (by decide) (by kernel_rfl) rfl rfl (h3 _ _)) ?_
  cases r.ttl == s.ttl
  · rfl
  refine (if_pos rfl).trans ?_
  refine Eq.trans (eqF_step (by decide) (by kernel_rfl) rfl rfl (h1 _ _)) ?_
  cases r.data == s.data
  · rfl
  refine (if_pos rfl).trans ?_
  rfl
theorem sameRecs_spec (l m : List Rec) (v u : Value) (w0 : World) (hR : RSl w0 5 v l.length (recsV l)) (hS : RSl w0 5 u m.length (recsV m)) (hl : l.length < 1000000) :
    Rets Tryz.prog 31 [v, u] w0 fun r w' => r = .bool (decide (l = m)) ∧ Ext w0 w' := by
  have hH := Hp.refl w0
  obtain ⟨ad, cap, rfl⟩ := hR.shape
  obtain ⟨bd, cbp, rfl⟩ := hS.shape
  refine rets_start Tryz.func31 rfl Tryz.ntmps31 rfl fun a Q0 hF hret hend => ?_
  simp only [argsFrom, Nat.zero_add, Nat.reduceAdd] at hF
  refine c_sr fun ops => ?_
  refine zm 1 hF rfl fun a hF => ?_
  refine c_n ?_
  replace hF := hF.sel [0, 1]
  simp only [ss, Nat.reduceBEq] at hF
  refine c_seq fun Q1 k1 t1 => ?_
  refine c_sr fun ops => ?_
  refine zm 1 hF rfl fun a hF => ?_
  refine zl hF rfl (r_len_sl hF rfl rfl Tryz.underlying34) fun a hF => ?_
  refine zm 1 hF rfl fun a hF => ?_
  refine zl hF rfl (r_len_sl hF rfl rfl Tryz.underlying34) fun a hF => ?_
  refine zb hF rfl rfl rfl (b_nen _ _ _ _) fun a hF => ?_
  refine c_n ?_
  replace hF := hF.sel [0, 1, 10]
  simp only [ss, Nat.reduceBEq] at hF
  refine c_if hF rfl (fun h10 => ?_) (fun h10 => ?_)
  ·
   try simp only [qq] at h10
   refine c_sr fun ops => ?_
   refine zm 1 hF rfl fun a hF => ?_
   refine c_n ?_
   replace hF := hF.sel [4]
   simp only [ss, Nat.reduceBEq] at hF
   refine wp_ret (t1.ret (hret (ret1 hF Tryz.results31 rfl ?_)))
   exact ⟨congrArg Value.bool (decide_eq_false (fun e => h10 (by rw [e]))).symm, hH.below⟩
  try simp only [qq] at h10
  refine wp_skip ?_
  refine k1 ?_
  refine c_seq fun Q2 k2 t2 => ?_
  refine c_sr fun ops => ?_
  refine zm 1 hF rfl fun a hF => ?_
  refine c_n ?_
  replace hF := hF.sel [0, 1, 5]
  simp only [ss, Nat.reduceBEq] at hF
  refine c_block fun Q3 t3 => ?_
  refine c_loop (fun n a w => ∃ i, n = l.length - i ∧ i ≤ l.length ∧ (∀ j (h : j < i) (h1 : j < l.length) (h2 : j < m.length), l[j] = m[j]) ∧ Fr 26 [(0, .slice ad l.length cap), (1, .slice bd m.length cbp), (5, .int .i64 (i : Nat))] a ∧ Hp w0 w []) ?_ ?_
  ·
   exact ⟨_, 0, rfl, Nat.zero_le _, fun j h => (Nat.not_lt_zero _ h).elim, hF.keep [0, 1, 5] rfl, hH⟩
  clear hH hF
  intro n a w hI Q4 k4 t4
  obtain ⟨i, hm, hi, hall, hF, hH⟩ := hI
  refine c_seq fun Q5 k5 t5 => ?_
  refine c_sr fun ops => ?_
  refine zm 2 hF rfl fun a hF => ?_
  refine zl hF rfl (r_len_sl hF rfl rfl Tryz.underlying34) fun a hF => ?_
  refine zb hF rfl rfl rfl (b_ltn _ _ _ _) fun a hF => ?_
  refine c_n ?_
  refine c_fi hF rfl (fun h14 => ?_) (fun h14 => ?_)
  ·
   try simp only [qq] at h14
   refine wp_exit (t5.exit (t4.exit (t3.here (?_))))
   refine k2 ?_
   refine c_sr fun ops => ?_
   refine zm 1 hF rfl fun a hF => ?_
   refine c_n ?_
   replace hF := hF.sel [4]
   simp only [ss, Nat.reduceBEq] at hF
   refine wp_ret (hret (ret1 hF Tryz.results31 rfl ?_))
   exact ⟨congrArg Value.bool (decide_eq_true (List.ext_getElem (by omega) fun j h1 h2 => hall j (by omega) h1 h2)).symm, hH.below⟩
  try simp only [qq] at h14
  obtain ⟨b1, off1, rfl, -, hr1⟩ := hR.rec h14
  have h14m : i < m.length := by omega
  obtain ⟨b2, off2, rfl, -, hr2⟩ := hS.rec h14m
  refine wp_skip ?_
  refine k5 ?_
  refine c_seq fun Q6 k6 t6 => ?_
  refine c_block fun Q7 t7 => ?_
  refine c_seq fun Q8 k8 t8 => ?_
  refine q_reg (by kernel_rfl) (by kernel_rfl) ?_
  refine qs hF rfl rfl rfl (fun w hw => r_move hF rfl rfl) fun a hF => ?_
  refine qs hF rfl rfl rfl (fun w hw => r_move hF rfl rfl) fun a hF => ?_
  refine qs hF rfl rfl rfl (fun w hw => r_indexaddr hF _ rfl rfl rfl Tryz.underlying34 ti38 (by omega)) fun a hF => ?_
  refine qs hF rfl rfl rfl (fun w hw => r_loadagg hF rfl rfl Tryz.underlying38 ti38 rfl (fun j u hu => (hH.ext hw).cell (hr1 j u hu))) fun a hF => ?_
  refine qs hF rfl rfl rfl (fun w hw => r_move hF rfl rfl) fun a hF => ?_
  refine qs hF rfl rfl rfl (fun w hw => r_move hF rfl rfl) fun a hF => ?_
  refine qs hF rfl rfl rfl (fun w hw => r_indexaddr hF _ rfl rfl rfl Tryz.underlying34 ti38 (by omega)) fun a hF => ?_
  refine qs hF rfl rfl rfl (fun w hw => r_loadagg hF rfl rfl Tryz.underlying38 ti38 rfl (fun j u hu => (hH.ext hw).cell (hr2 j u hu))) fun a hF => ?_
  refine qs hF rfl rfl rfl (fun w hw => r_binG hF rfl rfl rfl (run_eqGuard_agg _ _ _ _ _ _ _ (by kernel_rfl)) (b_recne _ _)) fun a hF => ?_
  refine q_nil fun w hE => ?_
  replace hH := hH.ext hE
  refine k8 ?_
  refine c_if hF rfl (fun h25 => ?_) (fun h25 => ?_)
  ·
   try simp only [qq] at h25
   refine c_sr fun ops => ?_
   refine zm 1 hF rfl fun a hF => ?_
   refine c_n ?_
   refine wp_ret (t7.ret (t6.ret (t4.ret (t3.ret (t2.ret (hret (ret1 hF Tryz.results31 rfl ?_)))))))
   exact ⟨congrArg Value.bool (decide_eq_false (fun e => h25 (by subst e; rfl))).symm, hH.below⟩
  try simp only [qq] at h25
  refine wp_skip ?_
  refine t7.norm ?_
  refine k6 ?_
  refine c_reg fun ops => ?_
  refine zm 1 hF rfl fun a hF => ?_
  refine zb hF rfl rfl rfl (b_addn _ _ 1 (by omega)) fun a hF => ?_
  refine zm 1 hF rfl fun a hF => ?_
  refine wpList_nil ?_
  refine k4 ?_
  refine ⟨l.length - (i + 1), by omega, i + 1, rfl, h14, fun j hj h1 h2 => ?_, hF.keep [0, 1, 5] rfl, hH⟩
  rcases Nat.lt_succ_iff_lt_or_eq.1 hj with h | rfl
  · exact hall j h h1 h2
  · exact h25
end Go.Proofs.YtcelgjabccgnmaaGreatDoor
