/- Is a stamp, is a vector zero? -/
import Derived.Test.YtebpacmhdkgfeaaDoorPly
namespace Go.Proofs.YtebpacmhdkgfeaaDoor
open Go.RowKit

def Mk.zero : Mk := ⟨0, 0⟩
theorem stamp_nz (m : Mk) : ∀ w, (binOp .neq 23 m.val (.agg #[.int .i64 0, .int .i64 0])).run Tryd.prog w = .ok (.bool (!decide (m = Mk.zero))) w := by
  have h : eqCells Tryd.prog 3 23 [.int .i64 m.boot, .int .i64 m.n] [.int .i64 0, .int .i64 0] = some (m.boot == 0 && (m.n == 0 && true)) := by kernel_rfl
  have e : (m.boot == 0 && (m.n == 0 && true)) = decide (m = Mk.zero) := by
    obtain ⟨a1, a2⟩ := m
    rw [Bool.eq_iff_iff]; simp [Mk.zero]
  rw [e] at h
  exact run_neq_cells 3 (by decide) (by kernel_rfl) h
theorem vec_nz (v : V8) : ∀ w, (binOp .neq 25 v.val (.agg #[.int .i64 0, .int .i64 0, .int .i64 0, .int .i64 0, .int .i64 0, .int .i64 0, .int .i64 0, .int .i64 0])).run Tryd.prog w = .ok (.bool (!decide (v = V8.zero))) w := by
  have h : eqCells Tryd.prog 3 25 [.int .i64 v.a0, .int .i64 v.a1, .int .i64 v.a2, .int .i64 v.a3, .int .i64 v.a4, .int .i64 v.a5, .int .i64 v.a6, .int .i64 v.a7] [.int .i64 0, .int .i64 0, .int .i64 0, .int .i64 0, .int .i64 0, .int .i64 0, .int .i64 0, .int .i64 0] = some (v.a0 == 0 && (v.a1 == 0 && (v.a2 == 0 && (v.a3 == 0 && (v.a4 == 0 && (v.a5 == 0 && (v.a6 == 0 && (v.a7 == 0 && true)))))))) := by kernel_rfl
  have e : (v.a0 == 0 && (v.a1 == 0 && (v.a2 == 0 && (v.a3 == 0 && (v.a4 == 0 && (v.a5 == 0 && (v.a6 == 0 && (v.a7 == 0 && true)))))))) = decide (v = V8.zero) := by
    obtain ⟨a0, a1, a2, a3, a4, a5, a6, a7⟩ := v
    rw [Bool.eq_iff_iff]; simp [V8.zero]
  rw [e] at h
  exact run_neq_cells 3 (by decide) (by kernel_rfl) h
end Go.Proofs.YtebpacmhdkgfeaaDoor
