/-
  The walks of hustingslaw08's small functions. Nothing is claimed here.
  Equality of records, and the walk of hustingsref08.SameRecords. Nothing is claimed here.
-/
import Derived.Test.YtpoebplhemimmaaGreatDoorKit2
import Derived.Laws.StructEq
import Derived.ChangeKeysEq
namespace Go.Proofs.YtpoebplhemimmaaGreatDoor
open Go.RowKit
set_option linter.unusedVariables false
set_option linter.unusedSimpArgs false
set_option maxHeartbeats 1000000

def r8 (n : Bs) (last : UInt8) (ttl : Nat) : Rec := ⟨n, 1, 1, ttl, [10, 0, 0, last]⟩

def l8 : List Rec := [r8 [2, 101, 120, 0] 2 5, r8 [2, 69, 88, 0] 1 3, r8 [2, 101, 120, 0] 2 9]
def want8 : RSet := ⟨[2, 101, 120, 0], 1, 1, 3, [[10, 0, 0, 1], [10, 0, 0, 2]]⟩
def late8 : RSet := ⟨[2, 101, 120, 0], 1, 1, 0, [[10, 0, 0, 1], [10, 0, 0, 2]]⟩
end Go.Proofs.YtpoebplhemimmaaGreatDoor
namespace Go.Proofs.YtpoebplhemimmaaGreatDoor
open Go.RowKit
set_option linter.unusedVariables false
set_option linter.unusedSimpArgs false
set_option maxHeartbeats 1000000

section
variable {P : Program} {o : Oper} {a : Act} {w w' : World} {N : Nat} {L : List (Nat × Value)} {v : Value}
theorem r_binG {x y : Operand} {op : BinOp} {t ty : TypeId} {u1 u2 : Value} (hF : Fr N L a) (ho : o.op = .binOp op t x y ty) (hx : ev L x = some u1) (hy : ev L y = some u2)
    (hg : (eqGuard op t x y u1 u2).run P w = .ok () w) (hr : (binOp op t u1 u2).run P w = .ok v w) : Does P o a w v w := by
  left; unfold execOp; simp [ho, hF.ev hx, hF.ev hy, hg, hr]
theorem eqF_step {d : Nat} {f : Field} {fs : List Field} {xs ys : Array Value} {a b : Value} {r : Bool} (hn : f.name ≠ "_") (hp : P.plainKey f.type = true) (hx : xs[f.offset]? = some a) (hy : ys[f.offset]? = some b)
    (he : (Op.equalIn d f.type a b).run P w = .ok r w) : (Op.eqFields d xs ys (f :: fs)).run P w = if r then (Op.eqFields d xs ys fs).run P w else .ok false w := by
  rw [Op.eqFields, if_pos hn]
  simp only [Sem.run_bind, run_part_plain _ hp hx, run_part_plain _ hp hy, Result.andThen_ok, he]
  cases r <;> simp
end
deriving instance DecidableEq for Rec
def recEq (r s : Rec) : Bool := r.name == s.name && (r.kind == s.kind && (r.cls == s.cls && (r.ttl == s.ttl && r.data == s.data)))
theorem recEq_iff {r s : Rec} : recEq r s = decide (r = s) := by
  rw [Bool.eq_iff_iff]
  obtain ⟨a, b, c, d, e⟩ := r
  obtain ⟨a', b', c', d', e'⟩ := s
  simp [recEq]
theorem b_recne {w : World} (r s : Rec) : (binOp .neq 56 (.agg (recV r).toArray) (.agg (recV s).toArray)).run Tryz.prog w = .ok (.bool (!decide (r = s))) w := by
  have hS : Program.underlying Tryz.prog 56 = some (.struct (Program.fieldsOf Tryz.prog 56)) := by kernel_rfl
  rw [run_neq_struct, show (10000 : Nat) = (9998 + 1) + 1 from rfl, run_equalIn_agg w (9998 + 1) _ _ _ hS (by kernel_rfl), ← recEq_iff]
  simp only [Program.fieldsOf, Tryz.underlying56]
  have h1 : ∀ (x y : Bs), (Op.equalIn (9998 + 1) 9 (.string (mk x)) (.string (mk y))).run Tryz.prog w = .ok (x == y) w := fun x y => by
    rw [run_equalIn_string w 9998 _ _ _ Tryz.underlying9]; simp
  have he : ∀ (x y : Nat), ((x : Int) == (y : Int)) = (x == y) := fun x y => by rw [Bool.eq_iff_iff]; simp; omega
  have h2 : ∀ (x y : Nat), (Op.equalIn (9998 + 1) 28 (.int .u16 (x : Nat)) (.int .u16 (y : Nat))).run Tryz.prog w = .ok (x == y) w := fun x y => by
    rw [run_equalIn_int w 9998 _ _ _ _ _ Tryz.underlying28, he]
  have h3 : ∀ (x y : Nat), (Op.equalIn (9998 + 1) 54 (.int .u32 (x : Nat)) (.int .u32 (y : Nat))).run Tryz.prog w = .ok (x == y) w := fun x y => by
    rw [run_equalIn_int w 9998 _ _ _ _ _ Tryz.underlying54, he]
  refine congrArg (fun q => Result.andThen q fun b w' => Result.ok (Value.bool (!b)) w') (?_ : _ = Result.ok (recEq r s) w)
  unfold recEq
  refine Eq.trans (eqF_step (by decide) (by kernel_rfl) rfl rfl (h1 _ _)) ?_
  cases r.name == s.name
  · rfl
  refine (if_pos rfl).trans ?_
  refine Eq.trans (eqF_step (by decide) (by kernel_rfl) rfl rfl (h2 _ _)) ?_
  cases r.kind == s.kind
  · rfl
  refine (if_pos rfl).trans ?_
  refine Eq.trans (eqF_step (by decide) (by kernel_rfl) rfl rfl (h2 _ _)) ?_
  cases r.cls == s.cls
  · rfl
  refine (if_pos rfl).trans ?_
  refine Eq.trans (eqF_step (by decide) (by kernel_rfl) rfl rfl (h3 _ _)) ?_
  cases r.ttl == s.ttl
  · rfl
  refine (if_pos rfl).trans ?_
  refine Eq.trans (eqF_step (by decide) (by kernel_rfl) rfl rfl (h1 _ _)) ?_
  cases r.data == s.data
  · rfl
  refine (if_pos rfl).trans ?_
  rfl
end Go.Proofs.YtpoebplhemimmaaGreatDoor
