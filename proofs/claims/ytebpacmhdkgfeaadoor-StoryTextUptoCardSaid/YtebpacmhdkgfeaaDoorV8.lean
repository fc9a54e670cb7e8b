/- Vectors: plain data. -/
import Derived.Test.YtebpacmhdkgfeaaDoorProg
import Derived.Test.YtebpacmhdkgfeaaDoorBase
namespace Go.Proofs.YtebpacmhdkgfeaaDoor
open Go.RowKit

structure V8 where
  (a0 a1 a2 a3 a4 a5 a6 a7 : Int)
  deriving DecidableEq
namespace V8
def list (v : V8) : List Int := [v.a0, v.a1, v.a2, v.a3, v.a4, v.a5, v.a6, v.a7]
def get (v : V8) (j : Nat) : Int := v.list.getD j 0
abbrev val (v : V8) : Value := .agg #[.int .i64 v.a0, .int .i64 v.a1, .int .i64 v.a2, .int .i64 v.a3, .int .i64 v.a4, .int .i64 v.a5, .int .i64 v.a6, .int .i64 v.a7]
def okN (n : Int) : Bool := decide (0 ≤ n ∧ n ≤ 1099511627776)
def good (v : V8) : Bool := v.list.all okN
theorem list_length (v : V8) : v.list.length = 8 := rfl
theorem take_succ (v : V8) (j : Nat) (h : j < 8) : v.list.take (j + 1) = v.list.take j ++ [v.get j] := by
  rw [List.take_succ_eq_append_getElem (by rw [list_length]; exact h)]
  congr 2
  unfold get
  rw [List.getD_eq_getElem?_getD, List.getElem?_eq_getElem (by rw [list_length]; exact h)]
  rfl
theorem take_all (v : V8) : v.list.take 8 = v.list := rfl
end V8

theorem idx8 (v : V8) (j : Nat) (hj : j < 8) : ∀ w, (Instr.index 25 v.val (.int .i64 (j : Int))).run Tryd.prog w = .ok (.int .i64 (v.get j)) w := by
  have h : j = 0 ∨ j = 1 ∨ j = 2 ∨ j = 3 ∨ j = 4 ∨ j = 5 ∨ j = 6 ∨ j = 7 := by omega
  rcases h with rfl | rfl | rfl | rfl | rfl | rfl | rfl | rfl <;> intro w <;> kernel_rfl

def V8.zero : V8 := ⟨0, 0, 0, 0, 0, 0, 0, 0⟩
def V8.cells (v : V8) : List Value := [.int .i64 v.a0, .int .i64 v.a1, .int .i64 v.a2, .int .i64 v.a3, .int .i64 v.a4, .int .i64 v.a5, .int .i64 v.a6, .int .i64 v.a7]
theorem V8.cells_get (v : V8) (k : Nat) (h : k < 8) : v.cells[k]? = some (.int .i64 (v.get k)) := by
  have e : k = 0 ∨ k = 1 ∨ k = 2 ∨ k = 3 ∨ k = 4 ∨ k = 5 ∨ k = 6 ∨ k = 7 := by omega
  rcases e with rfl | rfl | rfl | rfl | rfl | rfl | rfl | rfl <;> rfl
end Go.Proofs.YtebpacmhdkgfeaaDoor
