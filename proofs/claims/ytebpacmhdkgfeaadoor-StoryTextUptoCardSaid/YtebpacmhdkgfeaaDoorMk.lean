/- A mark, or a stamp: two numbers. -/
import Derived.Test.YtebpacmhdkgfeaaDoorBase
namespace Go.Proofs.YtebpacmhdkgfeaaDoor
open Go.RowKit

structure Mk where
  (boot n : Int)
  deriving DecidableEq
abbrev Mk.val (m : Mk) : Value := .agg #[.int .i64 m.boot, .int .i64 m.n]
def I64 (n : Int) : Prop := -9223372036854775808 ≤ n ∧ n ≤ 9223372036854775807
theorem ret_b {a b : Bool} (h : a = b) : Ending.returned (.bool a) = .returned (.bool b) := by rw [h]
theorem ret_s {a b : ByteArray} (h : a = b) : Ending.returned (.string a) = .returned (.string b) := by rw [h]
end Go.Proofs.YtebpacmhdkgfeaaDoor
