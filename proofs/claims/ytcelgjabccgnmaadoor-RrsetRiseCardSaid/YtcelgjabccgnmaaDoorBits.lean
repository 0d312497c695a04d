/-
  Operations on numbers' bits, at the numbers that the program asks them of. Nothing is claimed here.
-/
import Derived.Test.YtcelgjabccgnmaaDoorCmp
import Derived.Laws.BitsLemmas
namespace Go.Proofs.YtcelgjabccgnmaaDoor
open Go.RowKit
set_option linter.unusedVariables false
set_option linter.unusedSimpArgs false
set_option maxHeartbeats 1000000
section
variable {P : Program} {w : World}
theorem b_shr1 (t : TypeId) (n : Nat) : (binOp .shr t (.int .u64 (n : Int)) (.int .u64 1)).run P w = .ok (.int .u64 ((n / 2 : Nat) : Int)) w := by
  simp [go_sem]
theorem b_shl8 (t : TypeId) (n : Nat) (h : n < 1000000000) : (binOp .shl t (.int .i64 (n : Int)) (.int .u64 8)).run P w = .ok (.int .i64 ((n * 256 : Nat) : Int)) w := by
  simp [go_sem]; rw [IntWalk.i64_in _ (by omega)]
theorem b_shl8u (t : TypeId) (n : Nat) (h : n < 16777216) : (binOp .shl t (.int .u32 (n : Int)) (.int .u64 8)).run P w = .ok (.int .u32 ((n * 256 : Nat) : Int)) w := by
  simp [go_sem]; rw [IntWalk.u32_in _ (by omega)]
theorem and192 : ∀ n : Fin 256, bits .and .u8 ((n.val : Nat) : Int) 192 = ((n.val / 64 * 64 : Nat) : Int) := by decide +kernel
theorem andNot192 : ∀ n : Fin 256, bits .andNot .u8 ((n.val : Nat) : Int) 192 = ((n.val % 64 : Nat) : Int) := by decide +kernel
theorem b_and192 (t : TypeId) (n : Nat) (h : n < 256) : (binOp .and t (.int .u8 (n : Int)) (.int .u8 192)).run P w = .ok (.int .u8 ((n / 64 * 64 : Nat) : Int)) w := by
  simp [go_sem]; exact and192 ⟨n, h⟩
theorem b_andNot192 (t : TypeId) (n : Nat) (h : n < 256) : (binOp .andNot t (.int .u8 (n : Int)) (.int .u8 192)).run P w = .ok (.int .u8 ((n % 64 : Nat) : Int)) w := by
  have := andNot192 ⟨n, h⟩
  simp only at this
  simp [go_sem, this]
theorem b_orj (t : TypeId) (n m : Nat) (h : n < 1000000) (hm : m < 256) : (binOp .or t (.int .i64 ((n * 256 : Nat) : Int)) (.int .i64 (m : Int))).run P w = .ok (.int .i64 ((n * 256 + m : Nat) : Int)) w := by
  have := bits_join .i64 40 (by decide) (fun n h1 h2 => IntWalk.i64_in n (by omega)) 8 (x := ((n * 256 : Nat) : Int)) (y := (m : Int)) (by omega) (by omega) (by omega) (by omega) (by omega) (by omega)
  simp [go_sem]; simpa using this
theorem b_orju (t : TypeId) (n m : Nat) (h : n < 16777216) (hm : m < 256) : (binOp .or t (.int .u32 ((n * 256 : Nat) : Int)) (.int .u32 (m : Int))).run P w = .ok (.int .u32 ((n * 256 + m : Nat) : Int)) w := by
  have := bits_join .u32 32 (by decide) (fun n h1 h2 => IntWalk.u32_in n (by omega)) 8 (x := ((n * 256 : Nat) : Int)) (y := (m : Int)) (by omega) (by omega) (by omega) (by omega) (by omega) (by omega)
  simp [go_sem]; simpa using this
theorem b_mulk (t : TypeId) (n m : Nat) (h : n * m < 1000000000) : (binOp .mul t (.int .i64 (n : Int)) (.int .i64 (m : Int))).run P w = .ok (.int .i64 ((n * m : Nat) : Int)) w := by
  have : (n : Int) * m = ((n * m : Nat) : Int) := by simp
  simp [go_sem]; rw [this, IntWalk.i64_in _ (by omega)]
theorem b_remk (t : TypeId) (n m : Nat) (h : 0 < m) : (binOp .rem t (.int .i64 (n : Int)) (.int .i64 (m : Int))).run P w = .ok (.int .i64 ((n % m : Nat) : Int)) w := by
  have : ¬ m = 0 := by omega
  simp [go_sem, this]; exact Int.ofNat_tmod n m
theorem b_remu (t : TypeId) (n m : Nat) (h : 0 < m) : (binOp .rem t (.int .u64 (n : Int)) (.int .u64 (m : Int))).run P w = .ok (.int .u64 ((n % m : Nat) : Int)) w := by
  have : ¬ m = 0 := by omega
  simp [go_sem, this]; exact Int.ofNat_tmod n m
end
end Go.Proofs.YtcelgjabccgnmaaDoor
