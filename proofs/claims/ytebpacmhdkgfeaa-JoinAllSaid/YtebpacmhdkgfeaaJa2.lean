/- Texts laid together: Tab, RowEv, QTail, Grow, Two, Cm, Leg, Mk, V8, Ply, SamE. -/
import Derived.Test.YtebpacmhdkgfeaaJa1
import Derived.Test.YtebpacmhdkgfeaaProg
import Derived.Shelf.Abstract
import Derived.StillTail
import Derived.Deep.Quiet
import Derived.Lib.AppendZerosOnto
import Derived.Lib.Strings
import Derived.OpenShut
import Derived.Deep.Slices
import Derived.Deep.Fields
set_option linter.unusedSimpArgs false
set_option linter.unusedVariables false
/- The types of the program, by their rows of the table. -/
namespace Go.Proofs.Ytebpacmhdkgfeaa
instance : SizeT Try.prog 1 1 := ⟨by kernel_rfl⟩
instance : OneT Try.prog 1 := ⟨by kernel_rfl, by kernel_rfl⟩
instance : BytesT Try.prog 1 8 := ⟨by kernel_rfl⟩
instance : ZeroT Try.prog 1 (.nilFunc) := ⟨by kernel_rfl⟩
instance : SizeT Try.prog 2 1 := ⟨by kernel_rfl⟩
instance : OneT Try.prog 2 := ⟨by kernel_rfl, by kernel_rfl⟩
instance : BytesT Try.prog 2 8 := ⟨by kernel_rfl⟩
instance : ZeroT Try.prog 2 (.int .i64 0) := ⟨by kernel_rfl⟩
instance : SizeT Try.prog 3 1 := ⟨by kernel_rfl⟩
instance : OneT Try.prog 3 := ⟨by kernel_rfl, by kernel_rfl⟩
instance : BytesT Try.prog 3 8 := ⟨by kernel_rfl⟩
instance : ZeroT Try.prog 3 (.int .i64 0) := ⟨by kernel_rfl⟩
instance : SizeT Try.prog 4 1 := ⟨by kernel_rfl⟩
instance : OneT Try.prog 4 := ⟨by kernel_rfl, by kernel_rfl⟩
instance : BytesT Try.prog 4 1 := ⟨by kernel_rfl⟩
instance : ZeroT Try.prog 4 (.bool false) := ⟨by kernel_rfl⟩
instance : SizeT Try.prog 5 1 := ⟨by kernel_rfl⟩
instance : OneT Try.prog 5 := ⟨by kernel_rfl, by kernel_rfl⟩
instance : BytesT Try.prog 5 1 := ⟨by kernel_rfl⟩
instance : ZeroT Try.prog 5 (.int .u8 0) := ⟨by kernel_rfl⟩
instance : SizeT Try.prog 6 1 := ⟨by kernel_rfl⟩
instance : OneT Try.prog 6 := ⟨by kernel_rfl, by kernel_rfl⟩
instance : BytesT Try.prog 6 1 := ⟨by kernel_rfl⟩
instance : ZeroT Try.prog 6 (.int .u8 0) := ⟨by kernel_rfl⟩
instance : SizeT Try.prog 7 4 := ⟨by kernel_rfl⟩
instance : AggT Try.prog 7 := ⟨by kernel_rfl⟩
instance : BytesT Try.prog 7 24 := ⟨by kernel_rfl⟩
instance : ZeroT Try.prog 7 (.agg #[.int .i64 0, .int .i64 0, .bool false, .int .u8 0]) := ⟨by kernel_rfl⟩
instance : SizeT Try.prog 8 4 := ⟨by kernel_rfl⟩
instance : AggT Try.prog 8 := ⟨by kernel_rfl⟩
instance : BytesT Try.prog 8 24 := ⟨by kernel_rfl⟩
instance : ZeroT Try.prog 8 (.agg #[.int .i64 0, .int .i64 0, .bool false, .int .u8 0]) := ⟨by kernel_rfl⟩
instance : SizeT Try.prog 9 1 := ⟨by kernel_rfl⟩
instance : OneT Try.prog 9 := ⟨by kernel_rfl, by kernel_rfl⟩
instance : BytesT Try.prog 9 16 := ⟨by kernel_rfl⟩
instance : ZeroT Try.prog 9 (.string ⟨#[]⟩) := ⟨by kernel_rfl⟩
instance : SizeT Try.prog 10 1 := ⟨by kernel_rfl⟩
instance : OneT Try.prog 10 := ⟨by kernel_rfl, by kernel_rfl⟩
instance : BytesT Try.prog 10 16 := ⟨by kernel_rfl⟩
instance : ZeroT Try.prog 10 (.string ⟨#[]⟩) := ⟨by kernel_rfl⟩
instance : SizeT Try.prog 11 1 := ⟨by kernel_rfl⟩
instance : OneT Try.prog 11 := ⟨by kernel_rfl, by kernel_rfl⟩
instance : BytesT Try.prog 11 16 := ⟨by kernel_rfl⟩
instance : ZeroT Try.prog 11 (.string ⟨#[]⟩) := ⟨by kernel_rfl⟩
instance : SizeT Try.prog 12 1 := ⟨by kernel_rfl⟩
instance : OneT Try.prog 12 := ⟨by kernel_rfl, by kernel_rfl⟩
instance : BytesT Try.prog 12 8 := ⟨by kernel_rfl⟩
instance : ZeroT Try.prog 12 (.int .u64 0) := ⟨by kernel_rfl⟩
instance : SizeT Try.prog 13 2 := ⟨by kernel_rfl⟩
instance : AggT Try.prog 13 := ⟨by kernel_rfl⟩
instance : BytesT Try.prog 13 24 := ⟨by kernel_rfl⟩
instance : ZeroT Try.prog 13 (.agg #[.string ⟨#[]⟩, .int .u64 0]) := ⟨by kernel_rfl⟩
instance : SizeT Try.prog 14 2 := ⟨by kernel_rfl⟩
instance : AggT Try.prog 14 := ⟨by kernel_rfl⟩
instance : BytesT Try.prog 14 24 := ⟨by kernel_rfl⟩
instance : ZeroT Try.prog 14 (.agg #[.string ⟨#[]⟩, .int .u64 0]) := ⟨by kernel_rfl⟩
instance : SizeT Try.prog 15 1 := ⟨by kernel_rfl⟩
instance : OneT Try.prog 15 := ⟨by kernel_rfl, by kernel_rfl⟩
instance : BytesT Try.prog 15 8 := ⟨by kernel_rfl⟩
instance : ZeroT Try.prog 15 (.pointer none) := ⟨by kernel_rfl⟩
instance : SizeT Try.prog 16 1 := ⟨by kernel_rfl⟩
instance : OneT Try.prog 16 := ⟨by kernel_rfl, by kernel_rfl⟩
instance : BytesT Try.prog 16 8 := ⟨by kernel_rfl⟩
instance : ZeroT Try.prog 16 (.pointer none) := ⟨by kernel_rfl⟩
instance : SizeT Try.prog 17 1 := ⟨by kernel_rfl⟩
instance : OneT Try.prog 17 := ⟨by kernel_rfl, by kernel_rfl⟩
instance : BytesT Try.prog 17 8 := ⟨by kernel_rfl⟩
instance : ZeroT Try.prog 17 (.pointer none) := ⟨by kernel_rfl⟩
instance : SizeT Try.prog 18 1 := ⟨by kernel_rfl⟩
instance : AggT Try.prog 18 := ⟨by kernel_rfl⟩
instance : BytesT Try.prog 18 8 := ⟨by kernel_rfl⟩
instance : ZeroT Try.prog 18 (.agg #[.pointer none]) := ⟨by kernel_rfl⟩
instance : SizeT Try.prog 19 1 := ⟨by kernel_rfl⟩
instance : AggT Try.prog 19 := ⟨by kernel_rfl⟩
instance : BytesT Try.prog 19 8 := ⟨by kernel_rfl⟩
instance : ZeroT Try.prog 19 (.agg #[.pointer none]) := ⟨by kernel_rfl⟩
instance : SizeT Try.prog 20 1 := ⟨by kernel_rfl⟩
instance : OneT Try.prog 20 := ⟨by kernel_rfl, by kernel_rfl⟩
instance : BytesT Try.prog 20 16 := ⟨by kernel_rfl⟩
instance : ZeroT Try.prog 20 (.nilIface) := ⟨by kernel_rfl⟩
instance : SizeT Try.prog 21 1 := ⟨by kernel_rfl⟩
instance : OneT Try.prog 21 := ⟨by kernel_rfl, by kernel_rfl⟩
instance : BytesT Try.prog 21 4 := ⟨by kernel_rfl⟩
instance : ZeroT Try.prog 21 (.int .i32 0) := ⟨by kernel_rfl⟩
instance : SizeT Try.prog 22 8 := ⟨by kernel_rfl⟩
instance : AggT Try.prog 22 := ⟨by kernel_rfl⟩
instance : BytesT Try.prog 22 64 := ⟨by kernel_rfl⟩
instance : ZeroT Try.prog 22 (.agg #[.int .i64 0, .int .i64 0, .int .i64 0, .int .i64 0, .int .i64 0, .int .i64 0, .int .i64 0, .int .i64 0]) := ⟨by kernel_rfl⟩
instance : SizeT Try.prog 23 8 := ⟨by kernel_rfl⟩
instance : AggT Try.prog 23 := ⟨by kernel_rfl⟩
instance : BytesT Try.prog 23 64 := ⟨by kernel_rfl⟩
instance : ZeroT Try.prog 23 (.agg #[.int .i64 0, .int .i64 0, .int .i64 0, .int .i64 0, .int .i64 0, .int .i64 0, .int .i64 0, .int .i64 0]) := ⟨by kernel_rfl⟩
instance : SizeT Try.prog 24 1 := ⟨by kernel_rfl⟩
instance : OneT Try.prog 24 := ⟨by kernel_rfl, by kernel_rfl⟩
instance : BytesT Try.prog 24 24 := ⟨by kernel_rfl⟩
instance : ZeroT Try.prog 24 (.slice none 0 0) := ⟨by kernel_rfl⟩
instance : SliceT Try.prog 24 43 := ⟨by kernel_rfl⟩
instance : SizeT Try.prog 25 1 := ⟨by kernel_rfl⟩
instance : OneT Try.prog 25 := ⟨by kernel_rfl, by kernel_rfl⟩
instance : BytesT Try.prog 25 24 := ⟨by kernel_rfl⟩
instance : ZeroT Try.prog 25 (.slice none 0 0) := ⟨by kernel_rfl⟩
instance : SliceT Try.prog 25 48 := ⟨by kernel_rfl⟩
instance : SizeT Try.prog 26 10 := ⟨by kernel_rfl⟩
instance : AggT Try.prog 26 := ⟨by kernel_rfl⟩
instance : BytesT Try.prog 26 112 := ⟨by kernel_rfl⟩
instance : ZeroT Try.prog 26 (.agg #[.int .i64 0, .int .i64 0, .int .i64 0, .int .i64 0, .int .i64 0, .int .i64 0, .int .i64 0, .int .i64 0, .slice none 0 0, .slice none 0 0]) := ⟨by kernel_rfl⟩
instance : SizeT Try.prog 27 10 := ⟨by kernel_rfl⟩
instance : AggT Try.prog 27 := ⟨by kernel_rfl⟩
instance : BytesT Try.prog 27 112 := ⟨by kernel_rfl⟩
instance : ZeroT Try.prog 27 (.agg #[.int .i64 0, .int .i64 0, .int .i64 0, .int .i64 0, .int .i64 0, .int .i64 0, .int .i64 0, .int .i64 0, .slice none 0 0, .slice none 0 0]) := ⟨by kernel_rfl⟩
instance : SizeT Try.prog 28 1 := ⟨by kernel_rfl⟩
instance : OneT Try.prog 28 := ⟨by kernel_rfl, by kernel_rfl⟩
instance : BytesT Try.prog 28 8 := ⟨by kernel_rfl⟩
instance : ZeroT Try.prog 28 (.nilFunc) := ⟨by kernel_rfl⟩
instance : SizeT Try.prog 29 1 := ⟨by kernel_rfl⟩
instance : OneT Try.prog 29 := ⟨by kernel_rfl, by kernel_rfl⟩
instance : BytesT Try.prog 29 8 := ⟨by kernel_rfl⟩
instance : ZeroT Try.prog 29 (.nilFunc) := ⟨by kernel_rfl⟩
instance : SizeT Try.prog 30 1 := ⟨by kernel_rfl⟩
instance : OneT Try.prog 30 := ⟨by kernel_rfl, by kernel_rfl⟩
instance : BytesT Try.prog 30 8 := ⟨by kernel_rfl⟩
instance : ZeroT Try.prog 30 (.nilFunc) := ⟨by kernel_rfl⟩
instance : SizeT Try.prog 31 1 := ⟨by kernel_rfl⟩
instance : OneT Try.prog 31 := ⟨by kernel_rfl, by kernel_rfl⟩
instance : BytesT Try.prog 31 24 := ⟨by kernel_rfl⟩
instance : ZeroT Try.prog 31 (.slice none 0 0) := ⟨by kernel_rfl⟩
instance : SliceT Try.prog 31 27 := ⟨by kernel_rfl⟩
instance : SizeT Try.prog 32 1 := ⟨by kernel_rfl⟩
instance : OneT Try.prog 32 := ⟨by kernel_rfl, by kernel_rfl⟩
instance : BytesT Try.prog 32 8 := ⟨by kernel_rfl⟩
instance : ZeroT Try.prog 32 (.nilFunc) := ⟨by kernel_rfl⟩
instance : SizeT Try.prog 33 2 := ⟨by kernel_rfl⟩
instance : AggT Try.prog 33 := ⟨by kernel_rfl⟩
instance : BytesT Try.prog 33 16 := ⟨by kernel_rfl⟩
instance : ZeroT Try.prog 33 (.agg #[.int .i64 0, .int .i64 0]) := ⟨by kernel_rfl⟩
instance : SizeT Try.prog 34 2 := ⟨by kernel_rfl⟩
instance : AggT Try.prog 34 := ⟨by kernel_rfl⟩
instance : BytesT Try.prog 34 16 := ⟨by kernel_rfl⟩
instance : ZeroT Try.prog 34 (.agg #[.int .i64 0, .int .i64 0]) := ⟨by kernel_rfl⟩
instance : SizeT Try.prog 35 1 := ⟨by kernel_rfl⟩
instance : OneT Try.prog 35 := ⟨by kernel_rfl, by kernel_rfl⟩
instance : BytesT Try.prog 35 8 := ⟨by kernel_rfl⟩
instance : ZeroT Try.prog 35 (.int .u64 0) := ⟨by kernel_rfl⟩
instance : SizeT Try.prog 36 4 := ⟨by kernel_rfl⟩
instance : AggT Try.prog 36 := ⟨by kernel_rfl⟩
instance : BytesT Try.prog 36 32 := ⟨by kernel_rfl⟩
instance : ZeroT Try.prog 36 (.agg #[.int .i64 0, .int .i64 0, .int .i64 0, .int .u64 0]) := ⟨by kernel_rfl⟩
instance : SizeT Try.prog 37 4 := ⟨by kernel_rfl⟩
instance : AggT Try.prog 37 := ⟨by kernel_rfl⟩
instance : BytesT Try.prog 37 32 := ⟨by kernel_rfl⟩
instance : ZeroT Try.prog 37 (.agg #[.int .i64 0, .int .i64 0, .int .i64 0, .int .u64 0]) := ⟨by kernel_rfl⟩
instance : SizeT Try.prog 38 3 := ⟨by kernel_rfl⟩
instance : AggT Try.prog 38 := ⟨by kernel_rfl⟩
instance : BytesT Try.prog 38 24 := ⟨by kernel_rfl⟩
instance : ZeroT Try.prog 38 (.agg #[.int .i64 0, .int .i64 0, .int .i64 0]) := ⟨by kernel_rfl⟩
instance : SizeT Try.prog 39 3 := ⟨by kernel_rfl⟩
instance : AggT Try.prog 39 := ⟨by kernel_rfl⟩
instance : BytesT Try.prog 39 24 := ⟨by kernel_rfl⟩
instance : ZeroT Try.prog 39 (.agg #[.int .i64 0, .int .i64 0, .int .i64 0]) := ⟨by kernel_rfl⟩
instance : SizeT Try.prog 40 1 := ⟨by kernel_rfl⟩
instance : OneT Try.prog 40 := ⟨by kernel_rfl, by kernel_rfl⟩
instance : BytesT Try.prog 40 24 := ⟨by kernel_rfl⟩
instance : ZeroT Try.prog 40 (.slice none 0 0) := ⟨by kernel_rfl⟩
instance : SliceT Try.prog 40 71 := ⟨by kernel_rfl⟩
instance : SizeT Try.prog 41 1 := ⟨by kernel_rfl⟩
instance : OneT Try.prog 41 := ⟨by kernel_rfl, by kernel_rfl⟩
instance : BytesT Try.prog 41 24 := ⟨by kernel_rfl⟩
instance : ZeroT Try.prog 41 (.slice none 0 0) := ⟨by kernel_rfl⟩
instance : SliceT Try.prog 41 73 := ⟨by kernel_rfl⟩
instance : SizeT Try.prog 42 13 := ⟨by kernel_rfl⟩
instance : AggT Try.prog 42 := ⟨by kernel_rfl⟩
instance : BytesT Try.prog 42 144 := ⟨by kernel_rfl⟩
instance : ZeroT Try.prog 42 (.agg #[.int .i64 0, .int .i64 0, .int .i64 0, .string ⟨#[]⟩, .int .i64 0, .int .i64 0, .int .i64 0, .int .u64 0, .int .i64 0, .int .i64 0, .int .i64 0, .slice none 0 0, .slice none 0 0]) := ⟨by kernel_rfl⟩
instance : SizeT Try.prog 43 13 := ⟨by kernel_rfl⟩
instance : AggT Try.prog 43 := ⟨by kernel_rfl⟩
instance : BytesT Try.prog 43 144 := ⟨by kernel_rfl⟩
instance : ZeroT Try.prog 43 (.agg #[.int .i64 0, .int .i64 0, .int .i64 0, .string ⟨#[]⟩, .int .i64 0, .int .i64 0, .int .i64 0, .int .u64 0, .int .i64 0, .int .i64 0, .int .i64 0, .slice none 0 0, .slice none 0 0]) := ⟨by kernel_rfl⟩
instance : SizeT Try.prog 45 1 := ⟨by kernel_rfl⟩
instance : OneT Try.prog 45 := ⟨by kernel_rfl, by kernel_rfl⟩
instance : BytesT Try.prog 45 8 := ⟨by kernel_rfl⟩
instance : ZeroT Try.prog 45 (.nilFunc) := ⟨by kernel_rfl⟩
instance : SizeT Try.prog 46 1 := ⟨by kernel_rfl⟩
instance : OneT Try.prog 46 := ⟨by kernel_rfl, by kernel_rfl⟩
instance : BytesT Try.prog 46 8 := ⟨by kernel_rfl⟩
instance : ZeroT Try.prog 46 (.nilFunc) := ⟨by kernel_rfl⟩
instance : SizeT Try.prog 47 25 := ⟨by kernel_rfl⟩
instance : AggT Try.prog 47 := ⟨by kernel_rfl⟩
instance : BytesT Try.prog 47 208 := ⟨by kernel_rfl⟩
instance : ZeroT Try.prog 47 (.agg #[.int .i64 0, .int .i64 0, .int .i64 0, .int .i64 0, .int .i64 0, .int .i64 0, .int .i64 0, .int .i64 0, .string ⟨#[]⟩, .int .i64 0, .int .i64 0, .int .i64 0, .int .i64 0, .int .i64 0, .int .i64 0, .int .i64 0, .int .i64 0, .int .i64 0, .int .i64 0, .int .i64 0, .int .i64 0, .int .i64 0, .int .i64 0, .int .i64 0, .int .i64 0]) := ⟨by kernel_rfl⟩
instance : SizeT Try.prog 48 25 := ⟨by kernel_rfl⟩
instance : AggT Try.prog 48 := ⟨by kernel_rfl⟩
instance : BytesT Try.prog 48 208 := ⟨by kernel_rfl⟩
instance : ZeroT Try.prog 48 (.agg #[.int .i64 0, .int .i64 0, .int .i64 0, .int .i64 0, .int .i64 0, .int .i64 0, .int .i64 0, .int .i64 0, .string ⟨#[]⟩, .int .i64 0, .int .i64 0, .int .i64 0, .int .i64 0, .int .i64 0, .int .i64 0, .int .i64 0, .int .i64 0, .int .i64 0, .int .i64 0, .int .i64 0, .int .i64 0, .int .i64 0, .int .i64 0, .int .i64 0, .int .i64 0]) := ⟨by kernel_rfl⟩
instance : SizeT Try.prog 49 1 := ⟨by kernel_rfl⟩
instance : OneT Try.prog 49 := ⟨by kernel_rfl, by kernel_rfl⟩
instance : BytesT Try.prog 49 8 := ⟨by kernel_rfl⟩
instance : ZeroT Try.prog 49 (.nilFunc) := ⟨by kernel_rfl⟩
instance : SizeT Try.prog 50 1 := ⟨by kernel_rfl⟩
instance : OneT Try.prog 50 := ⟨by kernel_rfl, by kernel_rfl⟩
instance : BytesT Try.prog 50 8 := ⟨by kernel_rfl⟩
instance : ZeroT Try.prog 50 (.nilFunc) := ⟨by kernel_rfl⟩
instance : SizeT Try.prog 51 1 := ⟨by kernel_rfl⟩
instance : OneT Try.prog 51 := ⟨by kernel_rfl, by kernel_rfl⟩
instance : BytesT Try.prog 51 8 := ⟨by kernel_rfl⟩
instance : ZeroT Try.prog 51 (.nilFunc) := ⟨by kernel_rfl⟩
instance : SizeT Try.prog 52 1 := ⟨by kernel_rfl⟩
instance : OneT Try.prog 52 := ⟨by kernel_rfl, by kernel_rfl⟩
instance : BytesT Try.prog 52 24 := ⟨by kernel_rfl⟩
instance : ZeroT Try.prog 52 (.slice none 0 0) := ⟨by kernel_rfl⟩
instance : SliceT Try.prog 52 4 := ⟨by kernel_rfl⟩
instance : SizeT Try.prog 53 1 := ⟨by kernel_rfl⟩
instance : OneT Try.prog 53 := ⟨by kernel_rfl, by kernel_rfl⟩
instance : BytesT Try.prog 53 8 := ⟨by kernel_rfl⟩
instance : ZeroT Try.prog 53 (.nilFunc) := ⟨by kernel_rfl⟩
instance : SizeT Try.prog 54 1 := ⟨by kernel_rfl⟩
instance : OneT Try.prog 54 := ⟨by kernel_rfl, by kernel_rfl⟩
instance : BytesT Try.prog 54 8 := ⟨by kernel_rfl⟩
instance : ZeroT Try.prog 54 (.nilFunc) := ⟨by kernel_rfl⟩
instance : SizeT Try.prog 55 1 := ⟨by kernel_rfl⟩
instance : OneT Try.prog 55 := ⟨by kernel_rfl, by kernel_rfl⟩
instance : BytesT Try.prog 55 8 := ⟨by kernel_rfl⟩
instance : ZeroT Try.prog 55 (.nilFunc) := ⟨by kernel_rfl⟩
instance : SizeT Try.prog 56 1 := ⟨by kernel_rfl⟩
instance : OneT Try.prog 56 := ⟨by kernel_rfl, by kernel_rfl⟩
instance : BytesT Try.prog 56 8 := ⟨by kernel_rfl⟩
instance : ZeroT Try.prog 56 (.int .i64 0) := ⟨by kernel_rfl⟩
instance : SizeT Try.prog 58 1 := ⟨by kernel_rfl⟩
instance : OneT Try.prog 58 := ⟨by kernel_rfl, by kernel_rfl⟩
instance : BytesT Try.prog 58 8 := ⟨by kernel_rfl⟩
instance : ZeroT Try.prog 58 (.nilFunc) := ⟨by kernel_rfl⟩
instance : SizeT Try.prog 59 1 := ⟨by kernel_rfl⟩
instance : OneT Try.prog 59 := ⟨by kernel_rfl, by kernel_rfl⟩
instance : BytesT Try.prog 59 24 := ⟨by kernel_rfl⟩
instance : ZeroT Try.prog 59 (.slice none 0 0) := ⟨by kernel_rfl⟩
instance : SliceT Try.prog 59 63 := ⟨by kernel_rfl⟩
instance : SizeT Try.prog 60 1 := ⟨by kernel_rfl⟩
instance : OneT Try.prog 60 := ⟨by kernel_rfl, by kernel_rfl⟩
instance : BytesT Try.prog 60 8 := ⟨by kernel_rfl⟩
instance : ZeroT Try.prog 60 (.nilFunc) := ⟨by kernel_rfl⟩
instance : SizeT Try.prog 61 1 := ⟨by kernel_rfl⟩
instance : OneT Try.prog 61 := ⟨by kernel_rfl, by kernel_rfl⟩
instance : BytesT Try.prog 61 8 := ⟨by kernel_rfl⟩
instance : ZeroT Try.prog 61 (.nilFunc) := ⟨by kernel_rfl⟩
instance : SizeT Try.prog 62 2 := ⟨by kernel_rfl⟩
instance : AggT Try.prog 62 := ⟨by kernel_rfl⟩
instance : BytesT Try.prog 62 32 := ⟨by kernel_rfl⟩
instance : ZeroT Try.prog 62 (.agg #[.string ⟨#[]⟩, .string ⟨#[]⟩]) := ⟨by kernel_rfl⟩
instance : SizeT Try.prog 63 2 := ⟨by kernel_rfl⟩
instance : AggT Try.prog 63 := ⟨by kernel_rfl⟩
instance : BytesT Try.prog 63 32 := ⟨by kernel_rfl⟩
instance : ZeroT Try.prog 63 (.agg #[.string ⟨#[]⟩, .string ⟨#[]⟩]) := ⟨by kernel_rfl⟩
instance : SizeT Try.prog 64 1 := ⟨by kernel_rfl⟩
instance : OneT Try.prog 64 := ⟨by kernel_rfl, by kernel_rfl⟩
instance : BytesT Try.prog 64 8 := ⟨by kernel_rfl⟩
instance : ZeroT Try.prog 64 (.nilFunc) := ⟨by kernel_rfl⟩
instance : SizeT Try.prog 65 1 := ⟨by kernel_rfl⟩
instance : OneT Try.prog 65 := ⟨by kernel_rfl, by kernel_rfl⟩
instance : BytesT Try.prog 65 8 := ⟨by kernel_rfl⟩
instance : ZeroT Try.prog 65 (.nilFunc) := ⟨by kernel_rfl⟩
instance : SizeT Try.prog 66 1 := ⟨by kernel_rfl⟩
instance : OneT Try.prog 66 := ⟨by kernel_rfl, by kernel_rfl⟩
instance : BytesT Try.prog 66 8 := ⟨by kernel_rfl⟩
instance : ZeroT Try.prog 66 (.nilFunc) := ⟨by kernel_rfl⟩
instance : SizeT Try.prog 67 1 := ⟨by kernel_rfl⟩
instance : OneT Try.prog 67 := ⟨by kernel_rfl, by kernel_rfl⟩
instance : BytesT Try.prog 67 8 := ⟨by kernel_rfl⟩
instance : ZeroT Try.prog 67 (.nilFunc) := ⟨by kernel_rfl⟩
instance : SizeT Try.prog 68 1 := ⟨by kernel_rfl⟩
instance : OneT Try.prog 68 := ⟨by kernel_rfl, by kernel_rfl⟩
instance : BytesT Try.prog 68 8 := ⟨by kernel_rfl⟩
instance : ZeroT Try.prog 68 (.nilFunc) := ⟨by kernel_rfl⟩
instance : SizeT Try.prog 69 1 := ⟨by kernel_rfl⟩
instance : OneT Try.prog 69 := ⟨by kernel_rfl, by kernel_rfl⟩
instance : BytesT Try.prog 69 8 := ⟨by kernel_rfl⟩
instance : ZeroT Try.prog 69 (.nilFunc) := ⟨by kernel_rfl⟩
instance : SizeT Try.prog 70 4 := ⟨by kernel_rfl⟩
instance : AggT Try.prog 70 := ⟨by kernel_rfl⟩
instance : BytesT Try.prog 70 40 := ⟨by kernel_rfl⟩
instance : ZeroT Try.prog 70 (.agg #[.int .i64 0, .int .i64 0, .int .i64 0, .string ⟨#[]⟩]) := ⟨by kernel_rfl⟩
instance : SizeT Try.prog 71 4 := ⟨by kernel_rfl⟩
instance : AggT Try.prog 71 := ⟨by kernel_rfl⟩
instance : BytesT Try.prog 71 40 := ⟨by kernel_rfl⟩
instance : ZeroT Try.prog 71 (.agg #[.int .i64 0, .int .i64 0, .int .i64 0, .string ⟨#[]⟩]) := ⟨by kernel_rfl⟩
instance : SizeT Try.prog 72 5 := ⟨by kernel_rfl⟩
instance : AggT Try.prog 72 := ⟨by kernel_rfl⟩
instance : BytesT Try.prog 72 56 := ⟨by kernel_rfl⟩
instance : ZeroT Try.prog 72 (.agg #[.string ⟨#[]⟩, .int .i64 0, .int .i64 0, .string ⟨#[]⟩, .bool false]) := ⟨by kernel_rfl⟩
instance : SizeT Try.prog 73 5 := ⟨by kernel_rfl⟩
instance : AggT Try.prog 73 := ⟨by kernel_rfl⟩
instance : BytesT Try.prog 73 56 := ⟨by kernel_rfl⟩
instance : ZeroT Try.prog 73 (.agg #[.string ⟨#[]⟩, .int .i64 0, .int .i64 0, .string ⟨#[]⟩, .bool false]) := ⟨by kernel_rfl⟩
instance : SizeT Try.prog 74 1 := ⟨by kernel_rfl⟩
instance : OneT Try.prog 74 := ⟨by kernel_rfl, by kernel_rfl⟩
instance : BytesT Try.prog 74 8 := ⟨by kernel_rfl⟩
instance : ZeroT Try.prog 74 (.nilFunc) := ⟨by kernel_rfl⟩
instance : SizeT Try.prog 75 1 := ⟨by kernel_rfl⟩
instance : OneT Try.prog 75 := ⟨by kernel_rfl, by kernel_rfl⟩
instance : BytesT Try.prog 75 8 := ⟨by kernel_rfl⟩
instance : ZeroT Try.prog 75 (.nilFunc) := ⟨by kernel_rfl⟩
instance : SizeT Try.prog 76 1 := ⟨by kernel_rfl⟩
instance : OneT Try.prog 76 := ⟨by kernel_rfl, by kernel_rfl⟩
instance : BytesT Try.prog 76 8 := ⟨by kernel_rfl⟩
instance : ZeroT Try.prog 76 (.nilFunc) := ⟨by kernel_rfl⟩
instance : SizeT Try.prog 77 1 := ⟨by kernel_rfl⟩
instance : OneT Try.prog 77 := ⟨by kernel_rfl, by kernel_rfl⟩
instance : BytesT Try.prog 77 8 := ⟨by kernel_rfl⟩
instance : ZeroT Try.prog 77 (.nilFunc) := ⟨by kernel_rfl⟩
instance : SizeT Try.prog 78 1 := ⟨by kernel_rfl⟩
instance : OneT Try.prog 78 := ⟨by kernel_rfl, by kernel_rfl⟩
instance : BytesT Try.prog 78 8 := ⟨by kernel_rfl⟩
instance : ZeroT Try.prog 78 (.nilFunc) := ⟨by kernel_rfl⟩
instance : SizeT Try.prog 79 1 := ⟨by kernel_rfl⟩
instance : OneT Try.prog 79 := ⟨by kernel_rfl, by kernel_rfl⟩
instance : BytesT Try.prog 79 8 := ⟨by kernel_rfl⟩
instance : ZeroT Try.prog 79 (.nilFunc) := ⟨by kernel_rfl⟩
instance : SizeT Try.prog 80 1 := ⟨by kernel_rfl⟩
instance : OneT Try.prog 80 := ⟨by kernel_rfl, by kernel_rfl⟩
instance : BytesT Try.prog 80 8 := ⟨by kernel_rfl⟩
instance : ZeroT Try.prog 80 (.nilFunc) := ⟨by kernel_rfl⟩
instance : SizeT Try.prog 81 1 := ⟨by kernel_rfl⟩
instance : OneT Try.prog 81 := ⟨by kernel_rfl, by kernel_rfl⟩
instance : BytesT Try.prog 81 8 := ⟨by kernel_rfl⟩
instance : ZeroT Try.prog 81 (.nilFunc) := ⟨by kernel_rfl⟩
instance : SizeT Try.prog 82 1 := ⟨by kernel_rfl⟩
instance : OneT Try.prog 82 := ⟨by kernel_rfl, by kernel_rfl⟩
instance : BytesT Try.prog 82 8 := ⟨by kernel_rfl⟩
instance : ZeroT Try.prog 82 (.nilFunc) := ⟨by kernel_rfl⟩
instance : SizeT Try.prog 83 1 := ⟨by kernel_rfl⟩
instance : OneT Try.prog 83 := ⟨by kernel_rfl, by kernel_rfl⟩
instance : BytesT Try.prog 83 8 := ⟨by kernel_rfl⟩
instance : ZeroT Try.prog 83 (.nilFunc) := ⟨by kernel_rfl⟩
instance : SizeT Try.prog 84 1 := ⟨by kernel_rfl⟩
instance : OneT Try.prog 84 := ⟨by kernel_rfl, by kernel_rfl⟩
instance : BytesT Try.prog 84 8 := ⟨by kernel_rfl⟩
instance : ZeroT Try.prog 84 (.nilFunc) := ⟨by kernel_rfl⟩
instance : SizeT Try.prog 85 1 := ⟨by kernel_rfl⟩
instance : OneT Try.prog 85 := ⟨by kernel_rfl, by kernel_rfl⟩
instance : BytesT Try.prog 85 8 := ⟨by kernel_rfl⟩
instance : ZeroT Try.prog 85 (.nilFunc) := ⟨by kernel_rfl⟩
instance : SizeT Try.prog 86 1 := ⟨by kernel_rfl⟩
instance : OneT Try.prog 86 := ⟨by kernel_rfl, by kernel_rfl⟩
instance : BytesT Try.prog 86 8 := ⟨by kernel_rfl⟩
instance : ZeroT Try.prog 86 (.nilFunc) := ⟨by kernel_rfl⟩
instance : SizeT Try.prog 87 1 := ⟨by kernel_rfl⟩
instance : OneT Try.prog 87 := ⟨by kernel_rfl, by kernel_rfl⟩
instance : BytesT Try.prog 87 8 := ⟨by kernel_rfl⟩
instance : ZeroT Try.prog 87 (.nilFunc) := ⟨by kernel_rfl⟩
instance : SizeT Try.prog 88 1 := ⟨by kernel_rfl⟩
instance : OneT Try.prog 88 := ⟨by kernel_rfl, by kernel_rfl⟩
instance : BytesT Try.prog 88 8 := ⟨by kernel_rfl⟩
instance : ZeroT Try.prog 88 (.nilFunc) := ⟨by kernel_rfl⟩
instance : SizeT Try.prog 89 1 := ⟨by kernel_rfl⟩
instance : OneT Try.prog 89 := ⟨by kernel_rfl, by kernel_rfl⟩
instance : BytesT Try.prog 89 8 := ⟨by kernel_rfl⟩
instance : ZeroT Try.prog 89 (.pointer none) := ⟨by kernel_rfl⟩
instance : SizeT Try.prog 90 18 := ⟨by kernel_rfl⟩
instance : AggT Try.prog 90 := ⟨by kernel_rfl⟩
instance : BytesT Try.prog 90 176 := ⟨by kernel_rfl⟩
instance : ZeroT Try.prog 90 (.agg #[.int .i64 0, .int .i64 0, .int .i64 0, .int .i64 0, .int .i64 0, .int .i64 0, .int .i64 0, .int .i64 0, .slice none 0 0, .slice none 0 0, .int .i64 0, .int .i64 0, .int .i64 0, .int .i64 0, .int .i64 0, .int .i64 0, .int .i64 0, .int .i64 0]) := ⟨by kernel_rfl⟩
instance : SizeT Try.prog 91 18 := ⟨by kernel_rfl⟩
instance : AggT Try.prog 91 := ⟨by kernel_rfl⟩
instance : BytesT Try.prog 91 176 := ⟨by kernel_rfl⟩
instance : ZeroT Try.prog 91 (.agg #[.int .i64 0, .int .i64 0, .int .i64 0, .int .i64 0, .int .i64 0, .int .i64 0, .int .i64 0, .int .i64 0, .slice none 0 0, .slice none 0 0, .int .i64 0, .int .i64 0, .int .i64 0, .int .i64 0, .int .i64 0, .int .i64 0, .int .i64 0, .int .i64 0]) := ⟨by kernel_rfl⟩
instance : SizeT Try.prog 92 1 := ⟨by kernel_rfl⟩
instance : OneT Try.prog 92 := ⟨by kernel_rfl, by kernel_rfl⟩
instance : BytesT Try.prog 92 8 := ⟨by kernel_rfl⟩
instance : ZeroT Try.prog 92 (.nilFunc) := ⟨by kernel_rfl⟩
instance : SizeT Try.prog 93 1 := ⟨by kernel_rfl⟩
instance : OneT Try.prog 93 := ⟨by kernel_rfl, by kernel_rfl⟩
instance : BytesT Try.prog 93 8 := ⟨by kernel_rfl⟩
instance : ZeroT Try.prog 93 (.nilFunc) := ⟨by kernel_rfl⟩
instance : SizeT Try.prog 94 1 := ⟨by kernel_rfl⟩
instance : OneT Try.prog 94 := ⟨by kernel_rfl, by kernel_rfl⟩
instance : BytesT Try.prog 94 8 := ⟨by kernel_rfl⟩
instance : ZeroT Try.prog 94 (.pointer none) := ⟨by kernel_rfl⟩
instance : SizeT Try.prog 95 1 := ⟨by kernel_rfl⟩
instance : OneT Try.prog 95 := ⟨by kernel_rfl, by kernel_rfl⟩
instance : BytesT Try.prog 95 8 := ⟨by kernel_rfl⟩
instance : ZeroT Try.prog 95 (.map none) := ⟨by kernel_rfl⟩
instance : SizeT Try.prog 96 11 := ⟨by kernel_rfl⟩
instance : AggT Try.prog 96 := ⟨by kernel_rfl⟩
instance : BytesT Try.prog 96 120 := ⟨by kernel_rfl⟩
instance : ZeroT Try.prog 96 (.agg #[.int .i64 0, .int .i64 0, .int .i64 0, .int .i64 0, .int .i64 0, .int .i64 0, .int .i64 0, .int .i64 0, .slice none 0 0, .slice none 0 0, .map none]) := ⟨by kernel_rfl⟩
instance : SizeT Try.prog 97 11 := ⟨by kernel_rfl⟩
instance : AggT Try.prog 97 := ⟨by kernel_rfl⟩
instance : BytesT Try.prog 97 120 := ⟨by kernel_rfl⟩
instance : ZeroT Try.prog 97 (.agg #[.int .i64 0, .int .i64 0, .int .i64 0, .int .i64 0, .int .i64 0, .int .i64 0, .int .i64 0, .int .i64 0, .slice none 0 0, .slice none 0 0, .map none]) := ⟨by kernel_rfl⟩
instance : SizeT Try.prog 98 1 := ⟨by kernel_rfl⟩
instance : OneT Try.prog 98 := ⟨by kernel_rfl, by kernel_rfl⟩
instance : BytesT Try.prog 98 8 := ⟨by kernel_rfl⟩
instance : ZeroT Try.prog 98 (.nilFunc) := ⟨by kernel_rfl⟩
instance : SizeT Try.prog 99 1 := ⟨by kernel_rfl⟩
instance : OneT Try.prog 99 := ⟨by kernel_rfl, by kernel_rfl⟩
instance : BytesT Try.prog 99 24 := ⟨by kernel_rfl⟩
instance : ZeroT Try.prog 99 (.slice none 0 0) := ⟨by kernel_rfl⟩
instance : SliceT Try.prog 99 5 := ⟨by kernel_rfl⟩
instance : SizeT Try.prog 100 1 := ⟨by kernel_rfl⟩
instance : OneT Try.prog 100 := ⟨by kernel_rfl, by kernel_rfl⟩
instance : BytesT Try.prog 100 8 := ⟨by kernel_rfl⟩
instance : ZeroT Try.prog 100 (.nilFunc) := ⟨by kernel_rfl⟩
instance : SizeT Try.prog 101 1 := ⟨by kernel_rfl⟩
instance : OneT Try.prog 101 := ⟨by kernel_rfl, by kernel_rfl⟩
instance : BytesT Try.prog 101 8 := ⟨by kernel_rfl⟩
instance : ZeroT Try.prog 101 (.nilFunc) := ⟨by kernel_rfl⟩
instance : SizeT Try.prog 102 1 := ⟨by kernel_rfl⟩
instance : OneT Try.prog 102 := ⟨by kernel_rfl, by kernel_rfl⟩
instance : BytesT Try.prog 102 8 := ⟨by kernel_rfl⟩
instance : ZeroT Try.prog 102 (.nilFunc) := ⟨by kernel_rfl⟩
instance : SizeT Try.prog 103 1 := ⟨by kernel_rfl⟩
instance : OneT Try.prog 103 := ⟨by kernel_rfl, by kernel_rfl⟩
instance : BytesT Try.prog 103 8 := ⟨by kernel_rfl⟩
instance : ZeroT Try.prog 103 (.nilFunc) := ⟨by kernel_rfl⟩
instance : SizeT Try.prog 104 1 := ⟨by kernel_rfl⟩
instance : OneT Try.prog 104 := ⟨by kernel_rfl, by kernel_rfl⟩
instance : BytesT Try.prog 104 8 := ⟨by kernel_rfl⟩
instance : ZeroT Try.prog 104 (.nilFunc) := ⟨by kernel_rfl⟩
instance : SizeT Try.prog 105 1 := ⟨by kernel_rfl⟩
instance : OneT Try.prog 105 := ⟨by kernel_rfl, by kernel_rfl⟩
instance : BytesT Try.prog 105 8 := ⟨by kernel_rfl⟩
instance : ZeroT Try.prog 105 (.nilFunc) := ⟨by kernel_rfl⟩
instance : SizeT Try.prog 106 1 := ⟨by kernel_rfl⟩
instance : OneT Try.prog 106 := ⟨by kernel_rfl, by kernel_rfl⟩
instance : BytesT Try.prog 106 8 := ⟨by kernel_rfl⟩
instance : ZeroT Try.prog 106 (.nilFunc) := ⟨by kernel_rfl⟩
instance : SizeT Try.prog 107 1 := ⟨by kernel_rfl⟩
instance : OneT Try.prog 107 := ⟨by kernel_rfl, by kernel_rfl⟩
instance : BytesT Try.prog 107 8 := ⟨by kernel_rfl⟩
instance : ZeroT Try.prog 107 (.nilFunc) := ⟨by kernel_rfl⟩
instance : SizeT Try.prog 108 1 := ⟨by kernel_rfl⟩
instance : OneT Try.prog 108 := ⟨by kernel_rfl, by kernel_rfl⟩
instance : BytesT Try.prog 108 8 := ⟨by kernel_rfl⟩
instance : ZeroT Try.prog 108 (.nilFunc) := ⟨by kernel_rfl⟩
instance : SizeT Try.prog 109 1 := ⟨by kernel_rfl⟩
instance : OneT Try.prog 109 := ⟨by kernel_rfl, by kernel_rfl⟩
instance : BytesT Try.prog 109 8 := ⟨by kernel_rfl⟩
instance : ZeroT Try.prog 109 (.nilFunc) := ⟨by kernel_rfl⟩
instance : SizeT Try.prog 110 1 := ⟨by kernel_rfl⟩
instance : OneT Try.prog 110 := ⟨by kernel_rfl, by kernel_rfl⟩
instance : BytesT Try.prog 110 8 := ⟨by kernel_rfl⟩
instance : ZeroT Try.prog 110 (.nilFunc) := ⟨by kernel_rfl⟩
instance : SizeT Try.prog 111 1 := ⟨by kernel_rfl⟩
instance : OneT Try.prog 111 := ⟨by kernel_rfl, by kernel_rfl⟩
instance : BytesT Try.prog 111 8 := ⟨by kernel_rfl⟩
instance : ZeroT Try.prog 111 (.nilFunc) := ⟨by kernel_rfl⟩
instance : SizeT Try.prog 112 1 := ⟨by kernel_rfl⟩
instance : OneT Try.prog 112 := ⟨by kernel_rfl, by kernel_rfl⟩
instance : BytesT Try.prog 112 8 := ⟨by kernel_rfl⟩
instance : ZeroT Try.prog 112 (.nilFunc) := ⟨by kernel_rfl⟩
instance : SizeT Try.prog 113 1 := ⟨by kernel_rfl⟩
instance : OneT Try.prog 113 := ⟨by kernel_rfl, by kernel_rfl⟩
instance : BytesT Try.prog 113 8 := ⟨by kernel_rfl⟩
instance : ZeroT Try.prog 113 (.nilFunc) := ⟨by kernel_rfl⟩
instance : SizeT Try.prog 114 1 := ⟨by kernel_rfl⟩
instance : OneT Try.prog 114 := ⟨by kernel_rfl, by kernel_rfl⟩
instance : BytesT Try.prog 114 8 := ⟨by kernel_rfl⟩
instance : ZeroT Try.prog 114 (.nilFunc) := ⟨by kernel_rfl⟩
instance : SizeT Try.prog 115 1 := ⟨by kernel_rfl⟩
instance : OneT Try.prog 115 := ⟨by kernel_rfl, by kernel_rfl⟩
instance : BytesT Try.prog 115 8 := ⟨by kernel_rfl⟩
instance : ZeroT Try.prog 115 (.pointer none) := ⟨by kernel_rfl⟩
instance : SizeT Try.prog 116 12 := ⟨by kernel_rfl⟩
instance : AggT Try.prog 116 := ⟨by kernel_rfl⟩
instance : BytesT Try.prog 116 128 := ⟨by kernel_rfl⟩
instance : ZeroT Try.prog 116 (.agg #[.int .i64 0, .int .i64 0, .int .i64 0, .int .i64 0, .int .i64 0, .int .i64 0, .int .i64 0, .int .i64 0, .slice none 0 0, .slice none 0 0, .map none, .map none]) := ⟨by kernel_rfl⟩
instance : SizeT Try.prog 117 12 := ⟨by kernel_rfl⟩
instance : AggT Try.prog 117 := ⟨by kernel_rfl⟩
instance : BytesT Try.prog 117 128 := ⟨by kernel_rfl⟩
instance : ZeroT Try.prog 117 (.agg #[.int .i64 0, .int .i64 0, .int .i64 0, .int .i64 0, .int .i64 0, .int .i64 0, .int .i64 0, .int .i64 0, .slice none 0 0, .slice none 0 0, .map none, .map none]) := ⟨by kernel_rfl⟩
instance : SizeT Try.prog 118 1 := ⟨by kernel_rfl⟩
instance : OneT Try.prog 118 := ⟨by kernel_rfl, by kernel_rfl⟩
instance : BytesT Try.prog 118 8 := ⟨by kernel_rfl⟩
instance : ZeroT Try.prog 118 (.nilFunc) := ⟨by kernel_rfl⟩
instance : SizeT Try.prog 119 1 := ⟨by kernel_rfl⟩
instance : OneT Try.prog 119 := ⟨by kernel_rfl, by kernel_rfl⟩
instance : BytesT Try.prog 119 8 := ⟨by kernel_rfl⟩
instance : ZeroT Try.prog 119 (.nilFunc) := ⟨by kernel_rfl⟩
instance : SizeT Try.prog 120 1 := ⟨by kernel_rfl⟩
instance : OneT Try.prog 120 := ⟨by kernel_rfl, by kernel_rfl⟩
instance : BytesT Try.prog 120 8 := ⟨by kernel_rfl⟩
instance : ZeroT Try.prog 120 (.nilFunc) := ⟨by kernel_rfl⟩
instance : SizeT Try.prog 121 1 := ⟨by kernel_rfl⟩
instance : OneT Try.prog 121 := ⟨by kernel_rfl, by kernel_rfl⟩
instance : BytesT Try.prog 121 8 := ⟨by kernel_rfl⟩
instance : ZeroT Try.prog 121 (.nilFunc) := ⟨by kernel_rfl⟩
instance : SizeT Try.prog 123 1 := ⟨by kernel_rfl⟩
instance : OneT Try.prog 123 := ⟨by kernel_rfl, by kernel_rfl⟩
instance : BytesT Try.prog 123 8 := ⟨by kernel_rfl⟩
instance : ZeroT Try.prog 123 (.nilFunc) := ⟨by kernel_rfl⟩
instance : SizeT Try.prog 124 1 := ⟨by kernel_rfl⟩
instance : OneT Try.prog 124 := ⟨by kernel_rfl, by kernel_rfl⟩
instance : BytesT Try.prog 124 8 := ⟨by kernel_rfl⟩
instance : SizeT Try.prog 125 1 := ⟨by kernel_rfl⟩
instance : OneT Try.prog 125 := ⟨by kernel_rfl, by kernel_rfl⟩
instance : BytesT Try.prog 125 8 := ⟨by kernel_rfl⟩
instance : ZeroT Try.prog 125 (.nilFunc) := ⟨by kernel_rfl⟩
instance : SizeT Try.prog 126 1 := ⟨by kernel_rfl⟩
instance : OneT Try.prog 126 := ⟨by kernel_rfl, by kernel_rfl⟩
instance : BytesT Try.prog 126 8 := ⟨by kernel_rfl⟩
instance : ZeroT Try.prog 126 (.nilFunc) := ⟨by kernel_rfl⟩
instance : SizeT Try.prog 127 1 := ⟨by kernel_rfl⟩
instance : OneT Try.prog 127 := ⟨by kernel_rfl, by kernel_rfl⟩
instance : BytesT Try.prog 127 8 := ⟨by kernel_rfl⟩
instance : ZeroT Try.prog 127 (.nilFunc) := ⟨by kernel_rfl⟩
instance : SizeT Try.prog 128 1 := ⟨by kernel_rfl⟩
instance : OneT Try.prog 128 := ⟨by kernel_rfl, by kernel_rfl⟩
instance : BytesT Try.prog 128 8 := ⟨by kernel_rfl⟩
instance : ZeroT Try.prog 128 (.nilFunc) := ⟨by kernel_rfl⟩
instance : SizeT Try.prog 129 1 := ⟨by kernel_rfl⟩
instance : OneT Try.prog 129 := ⟨by kernel_rfl, by kernel_rfl⟩
instance : BytesT Try.prog 129 8 := ⟨by kernel_rfl⟩
instance : ZeroT Try.prog 129 (.nilFunc) := ⟨by kernel_rfl⟩
instance : SizeT Try.prog 130 1 := ⟨by kernel_rfl⟩
instance : OneT Try.prog 130 := ⟨by kernel_rfl, by kernel_rfl⟩
instance : BytesT Try.prog 130 8 := ⟨by kernel_rfl⟩
instance : ZeroT Try.prog 130 (.nilFunc) := ⟨by kernel_rfl⟩
instance : SizeT Try.prog 131 1 := ⟨by kernel_rfl⟩
instance : OneT Try.prog 131 := ⟨by kernel_rfl, by kernel_rfl⟩
instance : BytesT Try.prog 131 8 := ⟨by kernel_rfl⟩
instance : ZeroT Try.prog 131 (.nilFunc) := ⟨by kernel_rfl⟩
instance : SizeT Try.prog 132 1 := ⟨by kernel_rfl⟩
instance : OneT Try.prog 132 := ⟨by kernel_rfl, by kernel_rfl⟩
instance : BytesT Try.prog 132 8 := ⟨by kernel_rfl⟩
instance : ZeroT Try.prog 132 (.nilFunc) := ⟨by kernel_rfl⟩
instance : SizeT Try.prog 133 1 := ⟨by kernel_rfl⟩
instance : OneT Try.prog 133 := ⟨by kernel_rfl, by kernel_rfl⟩
instance : BytesT Try.prog 133 8 := ⟨by kernel_rfl⟩
instance : ZeroT Try.prog 133 (.nilFunc) := ⟨by kernel_rfl⟩
instance : SizeT Try.prog 134 1 := ⟨by kernel_rfl⟩
instance : OneT Try.prog 134 := ⟨by kernel_rfl, by kernel_rfl⟩
instance : BytesT Try.prog 134 8 := ⟨by kernel_rfl⟩
instance : ZeroT Try.prog 134 (.nilFunc) := ⟨by kernel_rfl⟩
instance : SizeT Try.prog 135 1 := ⟨by kernel_rfl⟩
instance : OneT Try.prog 135 := ⟨by kernel_rfl, by kernel_rfl⟩
instance : BytesT Try.prog 135 8 := ⟨by kernel_rfl⟩
instance : ZeroT Try.prog 135 (.nilFunc) := ⟨by kernel_rfl⟩
instance : SizeT Try.prog 136 1 := ⟨by kernel_rfl⟩
instance : OneT Try.prog 136 := ⟨by kernel_rfl, by kernel_rfl⟩
instance : BytesT Try.prog 136 8 := ⟨by kernel_rfl⟩
instance : ZeroT Try.prog 136 (.nilFunc) := ⟨by kernel_rfl⟩
instance : SizeT Try.prog 137 1 := ⟨by kernel_rfl⟩
instance : OneT Try.prog 137 := ⟨by kernel_rfl, by kernel_rfl⟩
instance : BytesT Try.prog 137 8 := ⟨by kernel_rfl⟩
instance : ZeroT Try.prog 137 (.nilFunc) := ⟨by kernel_rfl⟩
instance : SizeT Try.prog 138 1 := ⟨by kernel_rfl⟩
instance : OneT Try.prog 138 := ⟨by kernel_rfl, by kernel_rfl⟩
instance : BytesT Try.prog 138 8 := ⟨by kernel_rfl⟩
instance : ZeroT Try.prog 138 (.nilFunc) := ⟨by kernel_rfl⟩
instance : SizeT Try.prog 139 1 := ⟨by kernel_rfl⟩
instance : OneT Try.prog 139 := ⟨by kernel_rfl, by kernel_rfl⟩
instance : BytesT Try.prog 139 8 := ⟨by kernel_rfl⟩
instance : ZeroT Try.prog 139 (.nilFunc) := ⟨by kernel_rfl⟩
instance : SizeT Try.prog 140 1 := ⟨by kernel_rfl⟩
instance : OneT Try.prog 140 := ⟨by kernel_rfl, by kernel_rfl⟩
instance : BytesT Try.prog 140 8 := ⟨by kernel_rfl⟩
instance : ZeroT Try.prog 140 (.nilFunc) := ⟨by kernel_rfl⟩
instance : SizeT Try.prog 141 1 := ⟨by kernel_rfl⟩
instance : OneT Try.prog 141 := ⟨by kernel_rfl, by kernel_rfl⟩
instance : BytesT Try.prog 141 8 := ⟨by kernel_rfl⟩
instance : ZeroT Try.prog 141 (.nilFunc) := ⟨by kernel_rfl⟩
instance : SizeT Try.prog 142 1 := ⟨by kernel_rfl⟩
instance : OneT Try.prog 142 := ⟨by kernel_rfl, by kernel_rfl⟩
instance : BytesT Try.prog 142 8 := ⟨by kernel_rfl⟩
instance : ZeroT Try.prog 142 (.nilFunc) := ⟨by kernel_rfl⟩
instance : SizeT Try.prog 143 1 := ⟨by kernel_rfl⟩
instance : OneT Try.prog 143 := ⟨by kernel_rfl, by kernel_rfl⟩
instance : BytesT Try.prog 143 8 := ⟨by kernel_rfl⟩
instance : ZeroT Try.prog 143 (.nilFunc) := ⟨by kernel_rfl⟩
instance : SizeT Try.prog 144 1 := ⟨by kernel_rfl⟩
instance : OneT Try.prog 144 := ⟨by kernel_rfl, by kernel_rfl⟩
instance : BytesT Try.prog 144 8 := ⟨by kernel_rfl⟩
instance : ZeroT Try.prog 144 (.nilFunc) := ⟨by kernel_rfl⟩
instance : SizeT Try.prog 145 1 := ⟨by kernel_rfl⟩
instance : OneT Try.prog 145 := ⟨by kernel_rfl, by kernel_rfl⟩
instance : BytesT Try.prog 145 8 := ⟨by kernel_rfl⟩
instance : ZeroT Try.prog 145 (.nilFunc) := ⟨by kernel_rfl⟩
instance : SizeT Try.prog 146 1 := ⟨by kernel_rfl⟩
instance : OneT Try.prog 146 := ⟨by kernel_rfl, by kernel_rfl⟩
instance : BytesT Try.prog 146 8 := ⟨by kernel_rfl⟩
instance : ZeroT Try.prog 146 (.nilFunc) := ⟨by kernel_rfl⟩
instance : SizeT Try.prog 147 1 := ⟨by kernel_rfl⟩
instance : OneT Try.prog 147 := ⟨by kernel_rfl, by kernel_rfl⟩
instance : BytesT Try.prog 147 8 := ⟨by kernel_rfl⟩
instance : ZeroT Try.prog 147 (.nilFunc) := ⟨by kernel_rfl⟩
instance : SizeT Try.prog 148 1 := ⟨by kernel_rfl⟩
instance : OneT Try.prog 148 := ⟨by kernel_rfl, by kernel_rfl⟩
instance : BytesT Try.prog 148 8 := ⟨by kernel_rfl⟩
instance : ZeroT Try.prog 148 (.nilFunc) := ⟨by kernel_rfl⟩
instance : SizeT Try.prog 149 1 := ⟨by kernel_rfl⟩
instance : OneT Try.prog 149 := ⟨by kernel_rfl, by kernel_rfl⟩
instance : BytesT Try.prog 149 8 := ⟨by kernel_rfl⟩
instance : ZeroT Try.prog 149 (.nilFunc) := ⟨by kernel_rfl⟩
instance : SizeT Try.prog 150 1 := ⟨by kernel_rfl⟩
instance : OneT Try.prog 150 := ⟨by kernel_rfl, by kernel_rfl⟩
instance : BytesT Try.prog 150 8 := ⟨by kernel_rfl⟩
instance : ZeroT Try.prog 150 (.nilFunc) := ⟨by kernel_rfl⟩
instance : SizeT Try.prog 151 1 := ⟨by kernel_rfl⟩
instance : OneT Try.prog 151 := ⟨by kernel_rfl, by kernel_rfl⟩
instance : BytesT Try.prog 151 8 := ⟨by kernel_rfl⟩
instance : ZeroT Try.prog 151 (.nilFunc) := ⟨by kernel_rfl⟩
instance : SizeT Try.prog 152 1 := ⟨by kernel_rfl⟩
instance : OneT Try.prog 152 := ⟨by kernel_rfl, by kernel_rfl⟩
instance : BytesT Try.prog 152 8 := ⟨by kernel_rfl⟩
instance : ZeroT Try.prog 152 (.nilFunc) := ⟨by kernel_rfl⟩
instance : SizeT Try.prog 153 1 := ⟨by kernel_rfl⟩
instance : OneT Try.prog 153 := ⟨by kernel_rfl, by kernel_rfl⟩
instance : BytesT Try.prog 153 8 := ⟨by kernel_rfl⟩
instance : ZeroT Try.prog 153 (.map none) := ⟨by kernel_rfl⟩
instance : SizeT Try.prog 154 1 := ⟨by kernel_rfl⟩
instance : OneT Try.prog 154 := ⟨by kernel_rfl, by kernel_rfl⟩
instance : BytesT Try.prog 154 24 := ⟨by kernel_rfl⟩
instance : ZeroT Try.prog 154 (.slice none 0 0) := ⟨by kernel_rfl⟩
instance : SliceT Try.prog 154 3 := ⟨by kernel_rfl⟩
instance : SizeT Try.prog 155 1 := ⟨by kernel_rfl⟩
instance : OneT Try.prog 155 := ⟨by kernel_rfl, by kernel_rfl⟩
instance : BytesT Try.prog 155 8 := ⟨by kernel_rfl⟩
instance : ZeroT Try.prog 155 (.nilFunc) := ⟨by kernel_rfl⟩
instance : SizeT Try.prog 156 1 := ⟨by kernel_rfl⟩
instance : OneT Try.prog 156 := ⟨by kernel_rfl, by kernel_rfl⟩
instance : BytesT Try.prog 156 8 := ⟨by kernel_rfl⟩
instance : ZeroT Try.prog 156 (.nilFunc) := ⟨by kernel_rfl⟩
instance : SizeT Try.prog 157 1 := ⟨by kernel_rfl⟩
instance : OneT Try.prog 157 := ⟨by kernel_rfl, by kernel_rfl⟩
instance : BytesT Try.prog 157 8 := ⟨by kernel_rfl⟩
instance : ZeroT Try.prog 157 (.nilFunc) := ⟨by kernel_rfl⟩
instance : SizeT Try.prog 158 1 := ⟨by kernel_rfl⟩
instance : OneT Try.prog 158 := ⟨by kernel_rfl, by kernel_rfl⟩
instance : BytesT Try.prog 158 8 := ⟨by kernel_rfl⟩
instance : ZeroT Try.prog 158 (.pointer none) := ⟨by kernel_rfl⟩
instance : SizeT Try.prog 159 1 := ⟨by kernel_rfl⟩
instance : OneT Try.prog 159 := ⟨by kernel_rfl, by kernel_rfl⟩
instance : BytesT Try.prog 159 8 := ⟨by kernel_rfl⟩
instance : ZeroT Try.prog 159 (.nilFunc) := ⟨by kernel_rfl⟩
instance : SizeT Try.prog 160 1 := ⟨by kernel_rfl⟩
instance : OneT Try.prog 160 := ⟨by kernel_rfl, by kernel_rfl⟩
instance : BytesT Try.prog 160 8 := ⟨by kernel_rfl⟩
instance : ZeroT Try.prog 160 (.nilFunc) := ⟨by kernel_rfl⟩
instance : SizeT Try.prog 161 1 := ⟨by kernel_rfl⟩
instance : OneT Try.prog 161 := ⟨by kernel_rfl, by kernel_rfl⟩
instance : BytesT Try.prog 161 8 := ⟨by kernel_rfl⟩
instance : ZeroT Try.prog 161 (.nilFunc) := ⟨by kernel_rfl⟩
instance : SizeT Try.prog 162 1 := ⟨by kernel_rfl⟩
instance : OneT Try.prog 162 := ⟨by kernel_rfl, by kernel_rfl⟩
instance : BytesT Try.prog 162 8 := ⟨by kernel_rfl⟩
instance : ZeroT Try.prog 162 (.nilFunc) := ⟨by kernel_rfl⟩
instance : SizeT Try.prog 163 1 := ⟨by kernel_rfl⟩
instance : OneT Try.prog 163 := ⟨by kernel_rfl, by kernel_rfl⟩
instance : BytesT Try.prog 163 8 := ⟨by kernel_rfl⟩
instance : ZeroT Try.prog 163 (.nilFunc) := ⟨by kernel_rfl⟩
instance : SizeT Try.prog 164 1 := ⟨by kernel_rfl⟩
instance : OneT Try.prog 164 := ⟨by kernel_rfl, by kernel_rfl⟩
instance : BytesT Try.prog 164 8 := ⟨by kernel_rfl⟩
instance : ZeroT Try.prog 164 (.nilFunc) := ⟨by kernel_rfl⟩
instance : SizeT Try.prog 165 1 := ⟨by kernel_rfl⟩
instance : OneT Try.prog 165 := ⟨by kernel_rfl, by kernel_rfl⟩
instance : BytesT Try.prog 165 8 := ⟨by kernel_rfl⟩
instance : ZeroT Try.prog 165 (.nilFunc) := ⟨by kernel_rfl⟩
instance : SizeT Try.prog 166 1 := ⟨by kernel_rfl⟩
instance : OneT Try.prog 166 := ⟨by kernel_rfl, by kernel_rfl⟩
instance : BytesT Try.prog 166 8 := ⟨by kernel_rfl⟩
instance : ZeroT Try.prog 166 (.int .u64 0) := ⟨by kernel_rfl⟩
instance : SizeT Try.prog 167 1 := ⟨by kernel_rfl⟩
instance : OneT Try.prog 167 := ⟨by kernel_rfl, by kernel_rfl⟩
instance : BytesT Try.prog 167 8 := ⟨by kernel_rfl⟩
instance : ZeroT Try.prog 167 (.nilFunc) := ⟨by kernel_rfl⟩
instance : SizeT Try.prog 168 1 := ⟨by kernel_rfl⟩
instance : OneT Try.prog 168 := ⟨by kernel_rfl, by kernel_rfl⟩
instance : BytesT Try.prog 168 8 := ⟨by kernel_rfl⟩
instance : ZeroT Try.prog 168 (.nilFunc) := ⟨by kernel_rfl⟩
instance : SizeT Try.prog 169 1 := ⟨by kernel_rfl⟩
instance : OneT Try.prog 169 := ⟨by kernel_rfl, by kernel_rfl⟩
instance : BytesT Try.prog 169 8 := ⟨by kernel_rfl⟩
instance : ZeroT Try.prog 169 (.nilFunc) := ⟨by kernel_rfl⟩
instance : SizeT Try.prog 170 1 := ⟨by kernel_rfl⟩
instance : OneT Try.prog 170 := ⟨by kernel_rfl, by kernel_rfl⟩
instance : BytesT Try.prog 170 8 := ⟨by kernel_rfl⟩
instance : ZeroT Try.prog 170 (.nilFunc) := ⟨by kernel_rfl⟩
instance : SizeT Try.prog 171 1 := ⟨by kernel_rfl⟩
instance : OneT Try.prog 171 := ⟨by kernel_rfl, by kernel_rfl⟩
instance : BytesT Try.prog 171 8 := ⟨by kernel_rfl⟩
instance : ZeroT Try.prog 171 (.nilFunc) := ⟨by kernel_rfl⟩
instance : SizeT Try.prog 172 1 := ⟨by kernel_rfl⟩
instance : OneT Try.prog 172 := ⟨by kernel_rfl, by kernel_rfl⟩
instance : BytesT Try.prog 172 8 := ⟨by kernel_rfl⟩
instance : ZeroT Try.prog 172 (.nilFunc) := ⟨by kernel_rfl⟩
instance : SizeT Try.prog 173 1 := ⟨by kernel_rfl⟩
instance : OneT Try.prog 173 := ⟨by kernel_rfl, by kernel_rfl⟩
instance : BytesT Try.prog 173 8 := ⟨by kernel_rfl⟩
instance : ZeroT Try.prog 173 (.nilFunc) := ⟨by kernel_rfl⟩
instance : SizeT Try.prog 174 1 := ⟨by kernel_rfl⟩
instance : OneT Try.prog 174 := ⟨by kernel_rfl, by kernel_rfl⟩
instance : BytesT Try.prog 174 24 := ⟨by kernel_rfl⟩
instance : ZeroT Try.prog 174 (.slice none 0 0) := ⟨by kernel_rfl⟩
instance : SliceT Try.prog 174 24 := ⟨by kernel_rfl⟩
instance : SizeT Try.prog 175 1 := ⟨by kernel_rfl⟩
instance : OneT Try.prog 175 := ⟨by kernel_rfl, by kernel_rfl⟩
instance : BytesT Try.prog 175 8 := ⟨by kernel_rfl⟩
instance : ZeroT Try.prog 175 (.nilFunc) := ⟨by kernel_rfl⟩
instance : SizeT Try.prog 176 1 := ⟨by kernel_rfl⟩
instance : OneT Try.prog 176 := ⟨by kernel_rfl, by kernel_rfl⟩
instance : BytesT Try.prog 176 8 := ⟨by kernel_rfl⟩
instance : ZeroT Try.prog 176 (.nilFunc) := ⟨by kernel_rfl⟩
instance : SizeT Try.prog 177 1 := ⟨by kernel_rfl⟩
instance : OneT Try.prog 177 := ⟨by kernel_rfl, by kernel_rfl⟩
instance : BytesT Try.prog 177 8 := ⟨by kernel_rfl⟩
instance : ZeroT Try.prog 177 (.nilFunc) := ⟨by kernel_rfl⟩
instance : SizeT Try.prog 178 1 := ⟨by kernel_rfl⟩
instance : OneT Try.prog 178 := ⟨by kernel_rfl, by kernel_rfl⟩
instance : BytesT Try.prog 178 24 := ⟨by kernel_rfl⟩
instance : ZeroT Try.prog 178 (.slice none 0 0) := ⟨by kernel_rfl⟩
instance : SliceT Try.prog 178 40 := ⟨by kernel_rfl⟩
instance : SizeT Try.prog 179 1 := ⟨by kernel_rfl⟩
instance : OneT Try.prog 179 := ⟨by kernel_rfl, by kernel_rfl⟩
instance : BytesT Try.prog 179 8 := ⟨by kernel_rfl⟩
instance : ZeroT Try.prog 179 (.nilFunc) := ⟨by kernel_rfl⟩
instance : SizeT Try.prog 180 1 := ⟨by kernel_rfl⟩
instance : OneT Try.prog 180 := ⟨by kernel_rfl, by kernel_rfl⟩
instance : BytesT Try.prog 180 24 := ⟨by kernel_rfl⟩
instance : ZeroT Try.prog 180 (.slice none 0 0) := ⟨by kernel_rfl⟩
instance : SliceT Try.prog 180 41 := ⟨by kernel_rfl⟩
instance : SizeT Try.prog 181 1 := ⟨by kernel_rfl⟩
instance : OneT Try.prog 181 := ⟨by kernel_rfl, by kernel_rfl⟩
instance : BytesT Try.prog 181 8 := ⟨by kernel_rfl⟩
instance : ZeroT Try.prog 181 (.nilFunc) := ⟨by kernel_rfl⟩
instance : SizeT Try.prog 182 1 := ⟨by kernel_rfl⟩
instance : OneT Try.prog 182 := ⟨by kernel_rfl, by kernel_rfl⟩
instance : BytesT Try.prog 182 24 := ⟨by kernel_rfl⟩
instance : ZeroT Try.prog 182 (.slice none 0 0) := ⟨by kernel_rfl⟩
instance : SliceT Try.prog 182 25 := ⟨by kernel_rfl⟩
instance : SizeT Try.prog 183 1 := ⟨by kernel_rfl⟩
instance : OneT Try.prog 183 := ⟨by kernel_rfl, by kernel_rfl⟩
instance : BytesT Try.prog 183 8 := ⟨by kernel_rfl⟩
instance : ZeroT Try.prog 183 (.nilFunc) := ⟨by kernel_rfl⟩
instance : SizeT Try.prog 184 1 := ⟨by kernel_rfl⟩
instance : OneT Try.prog 184 := ⟨by kernel_rfl, by kernel_rfl⟩
instance : BytesT Try.prog 184 8 := ⟨by kernel_rfl⟩
instance : ZeroT Try.prog 184 (.nilFunc) := ⟨by kernel_rfl⟩
instance : SizeT Try.prog 185 1 := ⟨by kernel_rfl⟩
instance : OneT Try.prog 185 := ⟨by kernel_rfl, by kernel_rfl⟩
instance : BytesT Try.prog 185 8 := ⟨by kernel_rfl⟩
instance : ZeroT Try.prog 185 (.nilFunc) := ⟨by kernel_rfl⟩
instance : SizeT Try.prog 186 1 := ⟨by kernel_rfl⟩
instance : OneT Try.prog 186 := ⟨by kernel_rfl, by kernel_rfl⟩
instance : BytesT Try.prog 186 8 := ⟨by kernel_rfl⟩
instance : ZeroT Try.prog 186 (.nilFunc) := ⟨by kernel_rfl⟩
instance : SizeT Try.prog 187 1 := ⟨by kernel_rfl⟩
instance : OneT Try.prog 187 := ⟨by kernel_rfl, by kernel_rfl⟩
instance : BytesT Try.prog 187 8 := ⟨by kernel_rfl⟩
instance : ZeroT Try.prog 187 (.nilFunc) := ⟨by kernel_rfl⟩
instance : SizeT Try.prog 188 1 := ⟨by kernel_rfl⟩
instance : OneT Try.prog 188 := ⟨by kernel_rfl, by kernel_rfl⟩
instance : BytesT Try.prog 188 8 := ⟨by kernel_rfl⟩
instance : ZeroT Try.prog 188 (.nilFunc) := ⟨by kernel_rfl⟩
instance : SizeT Try.prog 190 1 := ⟨by kernel_rfl⟩
instance : OneT Try.prog 190 := ⟨by kernel_rfl, by kernel_rfl⟩
instance : BytesT Try.prog 190 8 := ⟨by kernel_rfl⟩
instance : ZeroT Try.prog 190 (.nilFunc) := ⟨by kernel_rfl⟩
instance : SizeT Try.prog 191 2 := ⟨by kernel_rfl⟩
instance : AggT Try.prog 191 := ⟨by kernel_rfl⟩
instance : BytesT Try.prog 191 24 := ⟨by kernel_rfl⟩
instance : ZeroT Try.prog 191 (.agg #[.string ⟨#[]⟩, .bool false]) := ⟨by kernel_rfl⟩
instance : SizeT Try.prog 192 2 := ⟨by kernel_rfl⟩
instance : AggT Try.prog 192 := ⟨by kernel_rfl⟩
instance : BytesT Try.prog 192 24 := ⟨by kernel_rfl⟩
instance : ZeroT Try.prog 192 (.agg #[.string ⟨#[]⟩, .bool false]) := ⟨by kernel_rfl⟩
instance : SizeT Try.prog 193 1 := ⟨by kernel_rfl⟩
instance : AggT Try.prog 193 := ⟨by kernel_rfl⟩
instance : BytesT Try.prog 193 8 := ⟨by kernel_rfl⟩
instance : ZeroT Try.prog 193 (.agg #[.int .i64 0]) := ⟨by kernel_rfl⟩
instance : SizeT Try.prog 194 1 := ⟨by kernel_rfl⟩
instance : AggT Try.prog 194 := ⟨by kernel_rfl⟩
instance : BytesT Try.prog 194 8 := ⟨by kernel_rfl⟩
instance : ZeroT Try.prog 194 (.agg #[.int .i64 0]) := ⟨by kernel_rfl⟩
instance : SizeT Try.prog 195 1 := ⟨by kernel_rfl⟩
instance : OneT Try.prog 195 := ⟨by kernel_rfl, by kernel_rfl⟩
instance : BytesT Try.prog 195 8 := ⟨by kernel_rfl⟩
instance : ZeroT Try.prog 195 (.nilFunc) := ⟨by kernel_rfl⟩
instance : SizeT Try.prog 196 1 := ⟨by kernel_rfl⟩
instance : OneT Try.prog 196 := ⟨by kernel_rfl, by kernel_rfl⟩
instance : BytesT Try.prog 196 8 := ⟨by kernel_rfl⟩
instance : ZeroT Try.prog 196 (.nilFunc) := ⟨by kernel_rfl⟩
instance : SizeT Try.prog 197 1 := ⟨by kernel_rfl⟩
instance : OneT Try.prog 197 := ⟨by kernel_rfl, by kernel_rfl⟩
instance : BytesT Try.prog 197 8 := ⟨by kernel_rfl⟩
instance : ZeroT Try.prog 197 (.pointer none) := ⟨by kernel_rfl⟩
instance : SizeT Try.prog 198 1 := ⟨by kernel_rfl⟩
instance : OneT Try.prog 198 := ⟨by kernel_rfl, by kernel_rfl⟩
instance : BytesT Try.prog 198 8 := ⟨by kernel_rfl⟩
instance : ZeroT Try.prog 198 (.nilFunc) := ⟨by kernel_rfl⟩
instance : SizeT Try.prog 199 1 := ⟨by kernel_rfl⟩
instance : OneT Try.prog 199 := ⟨by kernel_rfl, by kernel_rfl⟩
instance : BytesT Try.prog 199 8 := ⟨by kernel_rfl⟩
instance : ZeroT Try.prog 199 (.nilFunc) := ⟨by kernel_rfl⟩
instance : SizeT Try.prog 200 1 := ⟨by kernel_rfl⟩
instance : OneT Try.prog 200 := ⟨by kernel_rfl, by kernel_rfl⟩
instance : BytesT Try.prog 200 8 := ⟨by kernel_rfl⟩
instance : ZeroT Try.prog 200 (.nilFunc) := ⟨by kernel_rfl⟩
instance : SizeT Try.prog 202 1 := ⟨by kernel_rfl⟩
instance : OneT Try.prog 202 := ⟨by kernel_rfl, by kernel_rfl⟩
instance : BytesT Try.prog 202 8 := ⟨by kernel_rfl⟩
instance : ZeroT Try.prog 202 (.nilFunc) := ⟨by kernel_rfl⟩
instance : SizeT Try.prog 203 1 := ⟨by kernel_rfl⟩
instance : OneT Try.prog 203 := ⟨by kernel_rfl, by kernel_rfl⟩
instance : BytesT Try.prog 203 8 := ⟨by kernel_rfl⟩
instance : ZeroT Try.prog 203 (.nilFunc) := ⟨by kernel_rfl⟩
instance : SizeT Try.prog 204 1 := ⟨by kernel_rfl⟩
instance : OneT Try.prog 204 := ⟨by kernel_rfl, by kernel_rfl⟩
instance : BytesT Try.prog 204 8 := ⟨by kernel_rfl⟩
instance : ZeroT Try.prog 204 (.nilFunc) := ⟨by kernel_rfl⟩
instance : SizeT Try.prog 205 1 := ⟨by kernel_rfl⟩
instance : OneT Try.prog 205 := ⟨by kernel_rfl, by kernel_rfl⟩
instance : BytesT Try.prog 205 8 := ⟨by kernel_rfl⟩
instance : ZeroT Try.prog 205 (.nilFunc) := ⟨by kernel_rfl⟩
instance : SizeT Try.prog 206 1 := ⟨by kernel_rfl⟩
instance : OneT Try.prog 206 := ⟨by kernel_rfl, by kernel_rfl⟩
instance : BytesT Try.prog 206 8 := ⟨by kernel_rfl⟩
instance : ZeroT Try.prog 206 (.nilFunc) := ⟨by kernel_rfl⟩
instance : SizeT Try.prog 207 1 := ⟨by kernel_rfl⟩
instance : OneT Try.prog 207 := ⟨by kernel_rfl, by kernel_rfl⟩
instance : BytesT Try.prog 207 8 := ⟨by kernel_rfl⟩
instance : ZeroT Try.prog 207 (.nilFunc) := ⟨by kernel_rfl⟩
instance : SizeT Try.prog 208 1 := ⟨by kernel_rfl⟩
instance : OneT Try.prog 208 := ⟨by kernel_rfl, by kernel_rfl⟩
instance : BytesT Try.prog 208 8 := ⟨by kernel_rfl⟩
instance : ZeroT Try.prog 208 (.nilFunc) := ⟨by kernel_rfl⟩
instance : SizeT Try.prog 209 1 := ⟨by kernel_rfl⟩
instance : OneT Try.prog 209 := ⟨by kernel_rfl, by kernel_rfl⟩
instance : BytesT Try.prog 209 8 := ⟨by kernel_rfl⟩
instance : ZeroT Try.prog 209 (.nilFunc) := ⟨by kernel_rfl⟩
instance : SizeT Try.prog 210 1 := ⟨by kernel_rfl⟩
instance : OneT Try.prog 210 := ⟨by kernel_rfl, by kernel_rfl⟩
instance : BytesT Try.prog 210 8 := ⟨by kernel_rfl⟩
instance : ZeroT Try.prog 210 (.nilFunc) := ⟨by kernel_rfl⟩
instance : SizeT Try.prog 211 1 := ⟨by kernel_rfl⟩
instance : OneT Try.prog 211 := ⟨by kernel_rfl, by kernel_rfl⟩
instance : BytesT Try.prog 211 8 := ⟨by kernel_rfl⟩
instance : ZeroT Try.prog 211 (.nilFunc) := ⟨by kernel_rfl⟩
instance : SizeT Try.prog 212 1 := ⟨by kernel_rfl⟩
instance : OneT Try.prog 212 := ⟨by kernel_rfl, by kernel_rfl⟩
instance : BytesT Try.prog 212 8 := ⟨by kernel_rfl⟩
instance : ZeroT Try.prog 212 (.nilFunc) := ⟨by kernel_rfl⟩
instance : SizeT Try.prog 213 1 := ⟨by kernel_rfl⟩
instance : OneT Try.prog 213 := ⟨by kernel_rfl, by kernel_rfl⟩
instance : BytesT Try.prog 213 8 := ⟨by kernel_rfl⟩
instance : ZeroT Try.prog 213 (.nilFunc) := ⟨by kernel_rfl⟩
instance : SizeT Try.prog 214 1 := ⟨by kernel_rfl⟩
instance : OneT Try.prog 214 := ⟨by kernel_rfl, by kernel_rfl⟩
instance : BytesT Try.prog 214 8 := ⟨by kernel_rfl⟩
instance : ZeroT Try.prog 214 (.nilFunc) := ⟨by kernel_rfl⟩
instance : SizeT Try.prog 215 1 := ⟨by kernel_rfl⟩
instance : OneT Try.prog 215 := ⟨by kernel_rfl, by kernel_rfl⟩
instance : BytesT Try.prog 215 4 := ⟨by kernel_rfl⟩
instance : ZeroT Try.prog 215 (.int .u32 0) := ⟨by kernel_rfl⟩
instance : SizeT Try.prog 217 1 := ⟨by kernel_rfl⟩
instance : OneT Try.prog 217 := ⟨by kernel_rfl, by kernel_rfl⟩
instance : BytesT Try.prog 217 8 := ⟨by kernel_rfl⟩
instance : ZeroT Try.prog 217 (.nilFunc) := ⟨by kernel_rfl⟩
instance : SizeT Try.prog 218 1 := ⟨by kernel_rfl⟩
instance : OneT Try.prog 218 := ⟨by kernel_rfl, by kernel_rfl⟩
instance : BytesT Try.prog 218 8 := ⟨by kernel_rfl⟩
instance : ZeroT Try.prog 218 (.nilFunc) := ⟨by kernel_rfl⟩
instance : SizeT Try.prog 219 4 := ⟨by kernel_rfl⟩
instance : AggT Try.prog 219 := ⟨by kernel_rfl⟩
instance : BytesT Try.prog 219 40 := ⟨by kernel_rfl⟩
instance : ZeroT Try.prog 219 (.agg #[.pointer none, .pointer none, .pointer none, .string ⟨#[]⟩]) := ⟨by kernel_rfl⟩
instance : SizeT Try.prog 220 4 := ⟨by kernel_rfl⟩
instance : AggT Try.prog 220 := ⟨by kernel_rfl⟩
instance : BytesT Try.prog 220 40 := ⟨by kernel_rfl⟩
instance : ZeroT Try.prog 220 (.agg #[.pointer none, .pointer none, .pointer none, .string ⟨#[]⟩]) := ⟨by kernel_rfl⟩
instance : SizeT Try.prog 221 0 := ⟨by kernel_rfl⟩
instance : AggT Try.prog 221 := ⟨by kernel_rfl⟩
instance : BytesT Try.prog 221 0 := ⟨by kernel_rfl⟩
instance : ZeroT Try.prog 221 (.agg #[]) := ⟨by kernel_rfl⟩
instance : SizeT Try.prog 222 0 := ⟨by kernel_rfl⟩
instance : AggT Try.prog 222 := ⟨by kernel_rfl⟩
instance : BytesT Try.prog 222 0 := ⟨by kernel_rfl⟩
instance : ZeroT Try.prog 222 (.agg #[]) := ⟨by kernel_rfl⟩
instance : SizeT Try.prog 223 0 := ⟨by kernel_rfl⟩
instance : AggT Try.prog 223 := ⟨by kernel_rfl⟩
instance : BytesT Try.prog 223 0 := ⟨by kernel_rfl⟩
instance : ZeroT Try.prog 223 (.agg #[]) := ⟨by kernel_rfl⟩
instance : SizeT Try.prog 224 1 := ⟨by kernel_rfl⟩
instance : OneT Try.prog 224 := ⟨by kernel_rfl, by kernel_rfl⟩
instance : BytesT Try.prog 224 1 := ⟨by kernel_rfl⟩
instance : ZeroT Try.prog 224 (.int .u8 0) := ⟨by kernel_rfl⟩
instance : SizeT Try.prog 225 1 := ⟨by kernel_rfl⟩
instance : OneT Try.prog 225 := ⟨by kernel_rfl, by kernel_rfl⟩
instance : BytesT Try.prog 225 1 := ⟨by kernel_rfl⟩
instance : ZeroT Try.prog 225 (.int .u8 0) := ⟨by kernel_rfl⟩
instance : SizeT Try.prog 226 1 := ⟨by kernel_rfl⟩
instance : OneT Try.prog 226 := ⟨by kernel_rfl, by kernel_rfl⟩
instance : BytesT Try.prog 226 8 := ⟨by kernel_rfl⟩
instance : ZeroT Try.prog 226 (.nilFunc) := ⟨by kernel_rfl⟩
instance : SizeT Try.prog 227 1 := ⟨by kernel_rfl⟩
instance : OneT Try.prog 227 := ⟨by kernel_rfl, by kernel_rfl⟩
instance : BytesT Try.prog 227 8 := ⟨by kernel_rfl⟩
instance : ZeroT Try.prog 227 (.pointer none) := ⟨by kernel_rfl⟩
instance : SizeT Try.prog 228 1 := ⟨by kernel_rfl⟩
instance : OneT Try.prog 228 := ⟨by kernel_rfl, by kernel_rfl⟩
instance : BytesT Try.prog 228 4 := ⟨by kernel_rfl⟩
instance : ZeroT Try.prog 228 (.int .i32 0) := ⟨by kernel_rfl⟩
instance : SizeT Try.prog 229 1 := ⟨by kernel_rfl⟩
instance : OneT Try.prog 229 := ⟨by kernel_rfl, by kernel_rfl⟩
instance : BytesT Try.prog 229 4 := ⟨by kernel_rfl⟩
instance : ZeroT Try.prog 229 (.int .i32 0) := ⟨by kernel_rfl⟩
instance : SizeT Try.prog 230 11 := ⟨by kernel_rfl⟩
instance : AggT Try.prog 230 := ⟨by kernel_rfl⟩
instance : BytesT Try.prog 230 48 := ⟨by kernel_rfl⟩
instance : ZeroT Try.prog 230 (.agg #[.int .u64 0, .int .u64 0, .int .u32 0, .int .u8 0, .int .u8 0, .int .u8 0, .int .u8 0, .nilFunc, .pointer none, .int .i32 0, .int .i32 0]) := ⟨by kernel_rfl⟩
instance : SizeT Try.prog 231 11 := ⟨by kernel_rfl⟩
instance : AggT Try.prog 231 := ⟨by kernel_rfl⟩
instance : BytesT Try.prog 231 48 := ⟨by kernel_rfl⟩
instance : ZeroT Try.prog 231 (.agg #[.int .u64 0, .int .u64 0, .int .u32 0, .int .u8 0, .int .u8 0, .int .u8 0, .int .u8 0, .nilFunc, .pointer none, .int .i32 0, .int .i32 0]) := ⟨by kernel_rfl⟩
instance : SizeT Try.prog 232 1 := ⟨by kernel_rfl⟩
instance : OneT Try.prog 232 := ⟨by kernel_rfl, by kernel_rfl⟩
instance : BytesT Try.prog 232 8 := ⟨by kernel_rfl⟩
instance : ZeroT Try.prog 232 (.pointer none) := ⟨by kernel_rfl⟩
end Go.Proofs.Ytebpacmhdkgfeaa


/- Events on the elements of a row: addresses, loads, exchanges. Over any program. -/
namespace Go.Proofs.Ytebpacmhdkgfeaa
open Go.RowKit

section
variable {P : Program} {ops : Array Oper} {rest : List Oper} {o : Oper} {a : Act} {Q : Exit → Act → World → Prop} {Qs : Act → Prop} {K : Act → Prop} {C : World → Prop} {W w0 : World} {M : Nat → Prop} {l l' : List Item}
variable {α : Type} {E : Enc α} {T te : TypeId}
theorem run_indexRow {x ix : Operand} {g n c i : Nat} {k : IntKind} [ht : SliceT P te T] [hsz : SizeT P T E.sz] (ho : o.op = .indexAddr te x ix) (hx : a.eval x = .slice (some ⟨g, 0, none⟩) n c) (hix : a.eval ix = .int k i) (hi : i < n) (w : World) :
    (execOp a.eval o).run P w = .ok (.value (.pointer (some ⟨g, i * E.sz, none⟩))) w := by
  have := run_index (P := P) (e := T) (sz := E.sz) ho hx hix hi w
  rwa [Nat.zero_add] at this
theorem qK (E : Enc α) {x ix : Operand} {g n c i : Nat} {k : IntKind} [ht : SliceT P te T] [hsz : SizeT P T E.sz] (ho : o.op = .indexAddr te x ix) (hx : a.eval x = .slice (some ⟨g, 0, none⟩) n c) (hix : a.eval ix = .int k i) (hi : i < n)
    (h : K (a.put o.dst (.pointer (some ⟨g, i * E.sz, none⟩)))) : o.quiet P a C K := by
  refine ⟨_, fun w hw => ?_, h⟩
  unfold Oper.quietAt
  rw [run_indexRow (E := E) ho hx hix hi w]
  exact ⟨rfl, rfl⟩
theorem row_range {w : World} {base g n c i : Nat} {te : TypeId} {xs : List α} {y : α} (h : E.O w base te (.slice (some ⟨g, 0, none⟩) n c) xs) (hy : xs[i]? = some y) : w.rangeAt g (i * E.sz) (E.cells y) := by
  obtain ⟨hi, rfl⟩ := List.getElem?_eq_some_iff.1 hy
  obtain ⟨ao, c', e1, hel⟩ := R_elem h.read
  obtain ⟨g', off, e2, hr⟩ := hel i hi
  injection e1 with e1 _ _
  rw [e2] at e1
  injection e1 with e1
  injection e1 with e3 e4
  subst e3 e4
  rwa [Nat.zero_add] at hr
theorem run_loadRow {x : Operand} {base g n c i : Nat} {te' : TypeId} {xs : List α} {y : α} [ha : AggT P T] [hn : SizeT P T E.sz] (hO : E.O W base te' (.slice (some ⟨g, 0, none⟩) n c) xs) (ho : o.op = .load T x) (hx : a.eval x = .pointer (some ⟨g, i * E.sz, none⟩)) (hy : xs[i]? = some y) :
    (execOp a.eval o).run P W = .ok (.value (.agg (E.cells y).toArray)) W := by
  obtain ⟨d, hu, hd⟩ := isRow_of ha.agg
  unfold execOp
  simp only [ho, hx, Instr.loadAt, Instr.sureAddr, Sem.run_bind, Sem.run_pure, Result.andThen_ok, run_loadVar_mid W g (i * E.sz) T (E.cells y) d (row_range hO hy) hu hd (by rw [E.len]; exact hn.size)]
theorem qJ {x : Operand} {base g n c i : Nat} {te' : TypeId} {xs : List α} {y : α} [ha : AggT P T] [hn : SizeT P T E.sz] (hL : Loc w0 M W l) (hm : row E base te' (.slice (some ⟨g, 0, none⟩) n c) xs ∈ l) (ho : o.op = .load T x) (hx : a.eval x = .pointer (some ⟨g, i * E.sz, none⟩)) (hy : xs[i]? = some y)
    (h : K (a.put o.dst (.agg (E.cells y).toArray))) : o.quiet P a (fun w' => ∃ e : Ext W, w' = e.w) K := by
  refine ⟨.agg (E.cells y).toArray, ?_, h⟩
  rintro _ ⟨e, rfl⟩
  unfold Oper.quietAt
  rw [run_loadRow (E := E) ((hL.call e.ok).own hm) ho hx hy]
  exact ⟨rfl, rfl⟩
theorem run_setRow {p x : Operand} {base g n c i : Nat} {te' : TypeId} {xs : List α} {y : α} [hn : SizeT P T E.sz] (hL : Loc w0 M W l) (hs : Swap (row E base te' (.slice (some ⟨g, 0, none⟩) n c) xs) (row E base te' (.slice (some ⟨g, 0, none⟩) n c) (xs.set i y)) l l')
    (ho : o.op = .store T p x) (hp : a.eval p = .pointer (some ⟨g, i * E.sz, none⟩)) (hx : a.eval x = .agg (E.cells y).toArray) (hi : i < xs.length) :
    ∃ w1, (execOp a.eval o).run P W = .ok .skip w1 ∧ Loc w0 M w1 l' := by
  obtain ⟨w1, hst, hO, hm⟩ := O_set (P := P) (hL.own hs.mem) i hi y
  obtain ⟨inf, hii, hsz⟩ := Option.map_eq_some_iff.1 hn.size
  have hst2 : (storeVar T ⟨g, i * E.sz, none⟩ (.agg (E.cells y).toArray)).run P W = .ok () w1 := by
    simp [storeVar, sizeOf, typeInfo, hii, hsz, Value.cells, E.len, hst]
  refine ⟨w1, ?_, hL.swap hs (hm.mono fun k _ hk => ?_) (row_at hO) fun _ hk => .inl hk⟩
  · unfold execOp
    simp only [ho, hp, hx, Instr.storeAt, Instr.sureAddr, Sem.run_bind, Sem.run_pure, Result.andThen_ok, hst2]
  · show (Value.slice (some ⟨g, 0, none⟩) n c).ownBlock = some k
    rw [hk]; rfl
theorem wpOp_skip {i : Nat} {w w' : World} {K : Act → World → Prop} (hi : ops[i]? = some o) (hg : o.guard = none) (hr : (execOp a.eval o).run P w = .ok .skip w') (h : K (a.put o.dst undef) w') : wpOp P ops Q i K a w := by
  have hw : Region.wanted o (yielded ops a.tmps) = true := by simp [Region.wanted, hg]
  unfold wpOp
  simp only [hi, hw, if_true]
  refine .inl ?_
  unfold Oper.wp
  rw [hr]
  exact h
end
section
variable {P : Program} {ops : Array Oper} {o : Oper} {a : Act}
theorem run_addN (t : TypeId) (m n : Nat) (h : m + n ≤ 9223372036854775807) (w : World) : (binOp .add t (.int .i64 m) (.int .i64 n)).run P w = .ok (.int .i64 ((m + n : Nat) : Int)) w := by
  have h1 : ((m : Int) + (n : Int)) ≤ 9223372036854775807 := by omega
  simp [go_sem]
  rw [IntKind.wrap_i64]; omega
theorem run_subN (t : TypeId) (m n : Nat) (h : n ≤ m) (hm : m ≤ 9223372036854775807) (w : World) : (binOp .sub t (.int .i64 m) (.int .i64 n)).run P w = .ok (.int .i64 ((m - n : Nat) : Int)) w := by
  simp [go_sem]
  rw [IntKind.wrap_i64]; omega
theorem y_move {x : Operand} (v : Value) (hg : o.guard = none) (ho : o.op = .move x) (hx : a.eval x = v) : Yields P ops o v a := by
  refine .inl ⟨by simp [Region.wanted, hg], fun w => ?_⟩
  simp [execOp, ho, hx]
theorem y_add {t r : TypeId} {x y : Operand} (m n : Nat) (hg : o.guard = none) (ho : o.op = .binOp .add t x y r) (hx : a.eval x = .int .i64 m) (hy : a.eval y = .int .i64 n) (h : m + n ≤ 9223372036854775807) : Yields P ops o (.int .i64 ((m + n : Nat) : Int)) a := by
  refine .inl ⟨by simp [Region.wanted, hg], fun w => ?_⟩
  simp [execOp, ho, hx, hy, eqGuard, Sem.run_bind, run_addN t m n h w]
theorem y_sub {t r : TypeId} {x y : Operand} (m n : Nat) (hg : o.guard = none) (ho : o.op = .binOp .sub t x y r) (hx : a.eval x = .int .i64 m) (hy : a.eval y = .int .i64 n) (h : n ≤ m) (hm : m ≤ 9223372036854775807) : Yields P ops o (.int .i64 ((m - n : Nat) : Int)) a := by
  refine .inl ⟨by simp [Region.wanted, hg], fun w => ?_⟩
  simp [execOp, ho, hx, hy, eqGuard, Sem.run_bind, run_subN t m n h hm w]
theorem y_index {α : Type} (E : Enc α) {T te : TypeId} {x ix : Operand} {g n c : Nat} {k : IntKind} (i : Nat) [ht : SliceT P te T] [hsz : SizeT P T E.sz] (hg : o.guard = none) (ho : o.op = .indexAddr te x ix) (hx : a.eval x = .slice (some ⟨g, 0, none⟩) n c) (hix : a.eval ix = .int k i) (hi : i < n) :
    Yields P ops o (.pointer (some ⟨g, i * E.sz, none⟩)) a := .inl ⟨by simp [Region.wanted, hg], fun w => run_indexRow ho hx hix hi w⟩
end
/-- Two loads, in whichever order. -/
theorem wpAny_loads {P : Program} {md : Region.Mode} {ol : List Oper} {Q : Exit → Act → World → Prop} {a : Act} {W w0 : World} {M : Nat → Prop} {l : List Item} {α : Type} {E : Enc α} {T : TypeId} {base g n c ix jx : Nat} {te : TypeId} {xs : List α} {x y : α} [ha : AggT P T] [hn : SizeT P T E.sz]
    {f i j : Nat} {oi oj : Oper} {listed : Array Bool} {pi pj di dj : Tmp} (hi : Nth ol i oi) (hj : Nth ol j oj) (gi : oi.guard = none) (gj : oj.guard = none)
    (r1 : Region.ready md ol.toArray listed = [i, j]) (r2 : Region.ready md ol.toArray (listed.setIfInBounds i true) = [j]) (r3 : Region.ready md ol.toArray (listed.setIfInBounds j true) = [i])
    (nij : i ≠ j) (oi1 : oi.op = .load T (.tmp pi)) (oj1 : oj.op = .load T (.tmp pj)) (di1 : oi.dst = some di) (dj1 : oj.dst = some dj)
    (nd : (decide (di ≠ dj ∧ di ≠ pj ∧ dj ≠ pi)) = true)
    (hL : Loc w0 M W l) (hmem : row E base te (.slice (some ⟨g, 0, none⟩) n c) xs ∈ l) (xi : a.eval (.tmp pi) = .pointer (some ⟨g, jx * E.sz, none⟩)) (xj : a.eval (.tmp pj) = .pointer (some ⟨g, ix * E.sz, none⟩)) (hyj : xs[jx]? = some y) (hxi : xs[ix]? = some x)
    (H : wpAny P md ol.toArray Q f ((listed.setIfInBounds i true).setIfInBounds j true) ((a.put (some di) (.agg (E.cells y).toArray)).put (some dj) (.agg (E.cells x).toArray)) W) :
    wpAny P md ol.toArray Q (f + 2) listed a W := by
  simp only [decide_eq_true_eq] at nd
  obtain ⟨n1, n3, n6⟩ := nd
  have ne : ∀ {p q : Tmp}, p ≠ q → (some p : Option Tmp) ≠ some q := fun h e => h (Option.some.inj e)
  have c1 : (a.put (some dj) (.agg (E.cells x).toArray)).put (some di) (.agg (E.cells y).toArray) = (a.put (some di) (.agg (E.cells y).toArray)).put (some dj) (.agg (E.cells x).toArray) :=
    Act.put_comm a _ _ (fun d h1 h2 => n1 (Option.some.inj (h2.trans h1.symm)))
  have l1' : (listed.setIfInBounds j true).setIfInBounds i true = (listed.setIfInBounds i true).setIfInBounds j true := Array.setIfInBounds_comm _ _ nij.symm
  refine wpAny_all r1 (by simp) fun z hz => ?_
  rcases List.mem_cons.1 hz with rfl | hz
  · refine wpOp_run hi.get gi (run_loadRow (hL.own hmem) oi1 xi hyj) (wpAny_all r2 (by simp) fun z hz => ?_)
    obtain rfl := List.mem_singleton.1 hz
    rw [di1]
    refine wpOp_run hj.get gj (run_loadRow (hL.own hmem) oj1 (by rw [eval_put_ne (ne n3)]; exact xj) hxi) ?_
    rw [dj1]
    exact H
  · obtain rfl := List.mem_singleton.1 hz
    refine wpOp_run hj.get gj (run_loadRow (hL.own hmem) oj1 xj hxi) (wpAny_all r3 (by simp) fun z hz => ?_)
    obtain rfl := List.mem_singleton.1 hz
    rw [dj1]
    refine wpOp_run hi.get gi (run_loadRow (hL.own hmem) oi1 (by rw [eval_put_ne (ne n6)]; exact xi) hyj) ?_
    rw [di1, c1, l1']
    exact H
/-- A call that turns the row at g, seen from before. -/
theorem Loc.overRow {α : Type} {E : Enc α} {w0 w w1 : World} {base g n c : Nat} {te : TypeId} {xs ys : List α} (h : Loc w0 (· = g) w [row E base te (.slice (some ⟨g, 0, none⟩) n c) xs]) (h2 : Loc w (· = g) w1 [row E base te (.slice (some ⟨g, 0, none⟩) n c) ys]) :
    Loc w0 (· = g) w1 [row E base te (.slice (some ⟨g, 0, none⟩) n c) ys] :=
  ⟨h.mod.trans h2.mod fun _ _ e => e, h2.at_, fun i hi k hk => by
    rcases h2.new i hi k hk with h3 | h3
    · exact .inl (Nat.le_trans h.size h3)
    · exact .inr h3, h2.apart⟩
end Go.Proofs.Ytebpacmhdkgfeaa


/- Regions that draw their order: a head that reads and calls what only makes new memory, then a chain that may write. Over any program. -/
namespace Go.Proofs.Ytebpacmhdkgfeaa
open Go.RowKit

section
variable {P : Program} {ops : Array Oper} {md : Region.Mode} {C : World → Prop}
/-- Whatever order the head's n operations come in; L holds behind them. -/
def headQ (P : Program) (md : Region.Mode) (ops : Array Oper) (C : World → Prop) (n : Nat) (L : Array Bool → Act → Prop) : Nat → Array Bool → Act → Prop
  | 0, done, a => L done a
  | f + 1, done, a => Region.ready md ops done ≠ [] ∧ ∀ i ∈ Region.ready md ops done, i < n ∧ qOp P ops C i (headQ P md ops C n L f (done.setIfInBounds i true)) a
theorem wpAny_headQ {n g : Nat} {L : Array Bool → Act → Prop} {Q : Exit → Act → World → Prop} (hL : ∀ done a w, C w → L done a → wpAny P md ops Q g done a w) (f : Nat) :
    ∀ (done : Array Bool) (a : Act) (w : World), C w → headQ P md ops C n L f done a → wpAny P md ops Q (f + g) done a w := by
  induction f with
  | zero => intro done a w hw h; rw [Nat.zero_add]; exact hL _ _ _ hw h
  | succ f ih =>
    intro done a w hw h
    rw [Nat.succ_add]
    exact ⟨fun h0 => absurd h0 h.1, fun i hi => wpOp_of_qOp hw (fun a' w' hw' h' => ih _ a' w' hw' h') (h.2 i hi).2⟩
/-- Each of the head from k on is waited for, in the head or by the chain's first. -/
def sinkF (md : Region.Mode) (ops : Array Oper) (k n : Nat) : Bool := (List.range n).all fun i => decide (i < k) || (List.range (n + 1)).any fun j => decide (i < j) && Region.waitsFor md ops j i
theorem waitsF {k n : Nat} {done : Array Bool} (hs : sinkF md ops k n = true) (hc : Region.chainB md ops n = true) (hn : n < ops.size) (inv : HeadInv md ops n done) (d : Nat) :
    ∀ i, n - i = d → k ≤ i → i < n → done.getD i true = false → ∀ t, n ≤ t → t ∉ Region.ready md ops done := by
  induction d using Nat.strongRecOn with
  | _ d ih =>
    intro i hd hki hi hun t ht hr
    obtain ⟨_, ot, hot, hall⟩ := mem_ready.1 hr
    have htlt : t < ops.size := (Array.getElem?_eq_some_iff.1 hot).1
    by_cases htn : t = n
    · subst htn
      have h1 := List.all_eq_true.1 hs i (List.mem_range.2 hi)
      simp only [Bool.or_eq_true, decide_eq_true_eq] at h1
      obtain ⟨j, hj, hj2⟩ := List.any_eq_true.1 (h1.resolve_left (by omega))
      simp only [Bool.and_eq_true, decide_eq_true_eq] at hj2
      obtain ⟨oj, hoj, e, he, hb, hon⟩ := Region.waitsFor_spec hj2.2
      have hjle : j ≤ t := by have := List.mem_range.1 hj; omega
      by_cases hjt : j = t
      · subst hjt
        obtain rfl : oj = ot := Option.some.inj (hoj.symm.trans hot)
        have h2 := hall e he hb
        rw [hon, getD_both hun] at h2
        cases h2
      · cases hl : done.getD j false with
        | true =>
          have h2 := inv.closed j oj hoj hl e he hb
          rw [hon, getD_both hun] at h2
          cases h2
        | false => exact ih (t - j) (by omega) j rfl (by omega) (by omega) (getD_in (by rw [inv.size]; omega) hl) t (Nat.le_refl _) hr
    · have h1 := List.all_eq_true.1 hc t (List.mem_range.2 htlt)
      simp only [Bool.or_eq_true, decide_eq_true_eq] at h1
      obtain ⟨o', ho', e, he, hb, hon⟩ := Region.waitsFor_spec (h1.resolve_left (by omega))
      obtain rfl : o' = ot := Option.some.inj (ho'.symm.trans hot)
      have h2 := hall e he hb
      rw [hon, getD_both (inv.tail (t - 1) (by omega) (by omega))] at h2
      cases h2
/-- What may come first may be taken first. -/
theorem headQ_take {k n i : Nat} {oi : Oper} {v : Value} {L : Array Bool → Act → Prop} (hi : ops[i]? = some oi) (hsel : ∀ (j : Nat) (o : Oper) cs b, ops[j]? = some o → o.op ≠ .select cs b)
    (hs : sinkF md ops k n = true) (hc : Region.chainB md ops n = true) (hn : n < ops.size) (hki : k ≤ i) (hin : i < n) (hend : ∀ done a, L done a → ∀ j ∈ Region.ready md ops done, n ≤ j) (f : Nat) :
    ∀ (done : Array Bool) (a : Act), HeadInv md ops n done →
      (∀ j oj, ops[j]? = some oj → j ≠ i → done.getD j true = false → (∀ e ∈ oj.after, Region.binds md e = true → e.on ≠ i) → oi.apart ops oj = true) →
      i ∈ Region.ready md ops done → YieldsIn P ops C oi v a → headQ P md ops C n L f (done.setIfInBounds i true) (a.put oi.dst v) → headQ P md ops C n L (f + 1) done a := by
  have inHead : ∀ done, HeadInv md ops n done → i ∈ Region.ready md ops done → ∀ j ∈ Region.ready md ops done, j < n := fun done inv hr j hj => by
    rcases Nat.lt_or_ge j n with h | h
    · exact h
    · exact absurd hj (waitsF hs hc hn inv _ i rfl hki hin (mem_ready.1 hr).1 j h)
  induction f with
  | zero =>
    intro done a inv _ hr hy H
    refine ⟨fun h => (by rw [h] at hr; cases hr), fun j hj => ⟨inHead done inv hr j hj, ?_⟩⟩
    by_cases hji : j = i
    · subst hji; exact hy.qOp hi H
    · exact absurd (hend _ _ H j (ready_mono hj hji)) (by have := inHead done inv hr j hj; omega)
  | succ f ih =>
    intro done a inv hfree hr hy H
    refine ⟨fun h => (by rw [h] at hr; cases hr), fun j hj => ⟨inHead done inv hr j hj, ?_⟩⟩
    by_cases hji : j = i
    · subst hji; exact hy.qOp hi H
    · obtain ⟨hjun, oj, hoj, hall⟩ := mem_ready.1 hj
      have hnot : ∀ e ∈ oj.after, Region.binds md e = true → e.on ≠ i := fun e he hb heq => by
        have h1 := hall e he hb
        rw [heq, getD_both (mem_ready.1 hr).1] at h1
        cases h1
      have h2 := qOp_put hoj (hfree j oj hoj hji hjun hnot) (fun cs b => hsel i oi cs b hi) (fun cs b => hsel j oj cs b hoj) hy (H.2 j (ready_mono hj hji)).2
      refine qOp_mono (fun a' h3 => ih (done.setIfInBounds j true) a' (inv.set hj (inHead done inv hr j hj)) (fun q oq hq hqi hun hno => hfree q oq hq hqi ?_ hno) (ready_mono hr (Ne.symm hji)) h3.1 ?_) h2
      · by_cases hjk : j = q
        · subst hjk; exact hjun
        · rw [getD_set_ne true hjk] at hun; exact hun
      · rw [Array.setIfInBounds_comm _ _ hji]
        exact h3.2
theorem headQ_lex {n g k0 : Nat} {L : Act → Prop} (hsel : Region.noSelect ops = true) (hs : sinkF md ops k0 n = true) (hc : Region.chainB md ops n = true) (hn : n < ops.size) (l : List Oper) :
    ∀ (k : Nat) (done : Array Bool) (a : Act), k0 ≤ k → (∀ j, j < l.length → l[j]? = ops[k + j]?) → k + l.length = n → HeadInv md ops n done → Region.lexHead md ops g l.length k done = true → wpQuiet P ops C L l a →
    headQ P md ops C n (fun done' a' => Region.seqB md ops g n done' = true ∧ L a') l.length done a := by
  induction l with
  | nil =>
    intro k done a _ _ hk _ hB h
    obtain rfl : k = n := by simpa using hk
    exact ⟨by simpa [Region.lexHead] using hB, h⟩
  | cons o l ih =>
    intro k done a hk0 hl hk inv hB h
    have h0 : ops[k]? = some o := by simpa using (hl 0 (by simp)).symm
    simp only [List.length_cons, Region.lexHead, Bool.and_eq_true] at hB
    simp only [List.length_cons] at hk
    obtain ⟨⟨hr, hf⟩, hB'⟩ := hB
    have hr' : k ∈ Region.ready md ops done := by simpa using hr
    have hst : qOp P ops C k (wpQuiet P ops C L l) a := by unfold qOp; simp only [h0]; exact h
    obtain ⟨v, hy, hK⟩ := yieldsIn_of_qOp h0 hst
    exact headQ_take h0 (Region.noSelect_spec hsel) hs hc hn hk0 (by omega) (fun done' a' hL => seqB_ready hL.1) l.length done a inv (Region.free_spec h0 hf) hr' hy
      (ih (k + 1) _ _ (by omega) (fun j hj => by have := hl (j + 1) (by simp; omega); simpa [Nat.add_assoc, Nat.add_comm 1 j] using this) (by omega) (inv.set hr' (by omega)) hB' hK)
def closedB (md : Region.Mode) (ops : Array Oper) (n : Nat) (done : Array Bool) : Bool :=
  decide (done.size = ops.size) && ((List.range ops.size).all fun j => !(done.getD j false) || (match ops[j]? with | some oj => oj.after.all fun e => !(Region.binds md e) || done.getD e.on false | none => true)) && (List.range ops.size).all fun t => decide (t < n) || !(done.getD t true)
theorem closedB_spec {n : Nat} {done : Array Bool} (h : closedB md ops n done = true) : HeadInv md ops n done := by
  simp only [closedB, Bool.and_eq_true, decide_eq_true_eq] at h
  obtain ⟨⟨h1, h2⟩, h3⟩ := h
  refine ⟨h1, fun j oj hj hl e he hb => ?_, fun t ht ht2 => ?_⟩
  · have h4 := List.all_eq_true.1 h2 j (List.mem_range.2 (Array.getElem?_eq_some_iff.1 hj).1)
    rw [hl, hj] at h4
    simp only [Bool.not_true, Bool.false_or] at h4
    have h5 := Array.all_eq_true'.1 h4 e he
    rw [hb] at h5
    simpa using h5
  · have h4 := List.all_eq_true.1 h3 t (List.mem_range.2 ht2)
    simp only [Bool.or_eq_true, decide_eq_true_eq, Bool.not_eq_true'] at h4
    exact h4.resolve_left (by omega)
def tailB (ops : Array Oper) (k n : Nat) (done : Array Bool) : Bool :=
  Region.noSelect ops && decide (n < ops.size) && decide (k ≤ n) && sinkF .any ops k n && Region.chainB .any ops n && closedB .any ops n done && Region.lexHead .any ops (ops.size - n) (n - k) k done
theorem any_qtail {Q : Exit → Act → World → Prop} {a : Act} {w : World} {l : List Oper} {done : Array Bool} {f : Nat} (k n : Nat) (hf : l.toArray.size - k = f) (hB : tailB l.toArray k n done = true)
    (h : wpQuiet P l.toArray (fun w' => ∃ e : Ext w, w' = e.w) (fun a' => ∀ w', (∃ e : Ext w, w' = e.w) → wpList P l.toArray Q (l.drop n) a' w') ((l.take n).drop k) a) : wpAny P .any l.toArray Q f done a w := by
  simp only [tailB, Bool.and_eq_true, decide_eq_true_eq] at hB
  obtain ⟨⟨⟨⟨⟨⟨hsel, hn⟩, hkn⟩, hs⟩, hc⟩, hcl⟩, hlex⟩ := hB
  have hn' : n < l.length := by simpa using hn
  have htl : ((l.take n).drop k).length = n - k := by simp; omega
  have hdl : (l.drop n).length = l.toArray.size - n := by simp
  have H := headQ_lex (md := .any) (g := l.toArray.size - n) hsel hs hc hn ((l.take n).drop k) k _ a (Nat.le_refl _) (fun j hj => by
    rw [htl] at hj
    rw [List.getElem?_drop, List.getElem?_take_of_lt (by omega)]
    simp) (by rw [htl]; omega) (closedB_spec hcl) (by rw [htl]; exact hlex) h
  have := wpAny_headQ (Q := Q) (g := l.toArray.size - n) (fun done a' w' hw' hL => by
    have := wpAny_of_seq (md := .any) (Q' := Q) (l.drop n) n done a' w' (fun j => by simp [List.getElem?_drop]) (by rw [hdl]; exact hL.1) (hL.2 w' hw')
    rwa [hdl] at this) _ _ _ w ⟨⟨w, Below.refl _ _⟩, rfl⟩ H
  rw [htl, show n - k + (l.toArray.size - n) = l.toArray.size - k by omega, hf] at this
  exact this
/-- The head draws its order, the chain behind it does not. -/
theorem region_qtail {id : Nat} {Q : Exit → Act → World → Prop} {a : Act} {w w0 : World} {M : Nat → Prop} {its : List Item} {l : List Oper} (n : Nat) (hm : P.follows .mixedOrders = true) (hL : Loc w0 M w its) (hB : tailB l.toArray 0 n (Array.replicate l.toArray.size false) = true)
    (h : ∀ w1, Loc w0 M w1 its → wpQuiet P l.toArray (fun w' => ∃ e : Ext w1, w' = e.w) (fun a' => ∀ w', (∃ e : Ext w1, w' = e.w) → wpList P l.toArray Q (l.drop n) a' w') (l.take n) a) : (Code.region id l.toArray true).wp P Q a w :=
  region_any hm hL fun w1 hL1 _ _ => any_qtail 0 n rfl hB (by simpa using h w1 hL1)
end
end Go.Proofs.Ytebpacmhdkgfeaa


/- append of zeros onto the nil slice (slices.Grow): room for a row of one's own. What a variable holds, as a slice that reads. Over any program. -/
namespace Go.Proofs.Ytebpacmhdkgfeaa
open Go.RowKit

section
variable {P : Program} {ops : Array Oper} {rest : List Oper} {o : Oper} {a : Act} {Q : Exit → Act → World → Prop} {W w0 : World} {M : Nat → Prop} {l : List Item}
theorem ev_growNil {α : Type} (E : Enc α) {s x : Operand} {t tn e : TypeId} {z : Value} {by_ n : Nat} {k kn : IntKind} (base : Nat) [ht : SliceT P t e] [hz : ZeroT P e z] [hsz : SizeT P e E.sz] [hb : BytesT P e by_]
    (hgd : o.guard = none) (hL : Loc w0 M W l) (ho : o.op = .call { callee := .builtin .append, args := #[s, x], argTypes := #[t, tn] }) (hs : a.eval s = .slice none 0 0) (hx : a.eval x = .int k (n : Int)) (htn : P.underlying tn = some (.int kn))
    (hzc : z.cells.size = E.sz) (hby : decide (by_ ≤ 1000) = true) (h0 : 0 < n) (hn : n ≤ 100000000000) (hbase : base ≤ w0.heap.size)
    (h : ∀ g G w1, n ≤ G → G ≤ 9223372036854775807 → Loc w0 M w1 (row E base e (.slice (some ⟨g, 0, none⟩) 0 G) [] :: l) → wpList P ops Q rest (a.put o.dst (.slice (some ⟨g, 0, none⟩) n G)) w1) : wpList P ops Q (o :: rest) a W := by
  obtain ⟨i, hi, hzz⟩ := Option.map_eq_some_iff.1 hz.zero
  have his : i.size = E.sz := by have := hsz.size; simpa [hi] using this
  have hib : i.bytes = by_ := by have := hb.bytes; simpa [hi] using this
  have hb1 := of_decide_eq_true hby
  have hp := E.pos
  have hbig : n * i.bytes ≤ 140737488355328 := by
    rw [hib]
    calc n * by_ ≤ 100000000000 * 1000 := Nat.mul_le_mul hn hb1
      _ ≤ 140737488355328 := by decide
  have hr := Lib.run_append_grow_zeros W t tn o.type e i z k kn ht.slice htn hi hzz none 0 0 [] (run_firstCells_none W.drew i.size 0 0 0) n h0 (by rw [his]; exact hp) (by omega) (by omega) (by omega) (growslice_fits (by omega) (by rw [Nat.zero_add]; exact hbig))
  rw [Nat.zero_add] at hr
  have hG := grownCap_ge W n 0 e
  have hG63 := grownCap_le_maxLen W n 0 e (by unfold maxLen; omega)
  generalize grownCap W n 0 e = G at *
  unfold maxLen at hG63
  have hbb : base ≤ W.heap.size := Nat.le_trans hbase hL.size
  refine event hgd (v := .slice (some ⟨W.heap.size, 0, none⟩) n G) ?_ (h W.heap.size G _ hG (by omega) (hL.callNew (w1 := W.drew.alloc (.cells (#[] ++ Builtin.zeroCells z.cells n ++ Builtin.zeroCells z.cells (G - n)) e)) (bl_alloc (show Below W.heap.size W W.drew from ⟨rfl, rfl, rfl, Nat.le_refl _, fun _ _ => rfl⟩) _) (row_at ⟨by simp [Enc.all], .inr ⟨W.heap.size, G, #[] ++ Builtin.zeroCells z.cells n ++ Builtin.zeroCells z.cells (G - n), rfl, hbb, ?_, by simp, by unfold maxLen; omega, ?_, by simp [Enc.all]⟩⟩) fun k hk => ?_))
  · simp only [execOp, ho, resolve, invoke, builtin, Sem.run_bind, Sem.run_pure, Result.andThen_ok, List.map_toArray, List.map_cons, List.map_nil, hs, hx, hr]
  · exact heap_alloc_new W.drew _
  · simp only [Array.empty_append, Array.size_append, Builtin.zeroCells, Array.size_map, Array.size_range, hzc, ← Nat.add_mul]
    congr 1
    omega
  · have hk' : (Value.slice (some ⟨W.heap.size, 0, none⟩) 0 G).ownBlock = some k := hk
    simp [Value.ownBlock] at hk'
    omega
end
/-- A call that hands back a row of its own. -/
theorem Loc.takeRow {α : Type} {E : Enc α} {w0 w w1 : World} {M : Nat → Prop} {l : List Item} {e : TypeId} {v : Value} {xs : List α} (h : Loc w0 M w l) (h3 : Loc w NoM w1 [row E w.heap.size e v xs]) : Loc w0 M w1 (row E w0.heap.size e v xs :: l) :=
  h.callNew h3.below (row_at ((h3.own (.head _)).weaken h.size)) fun k hk => (h3.new _ (.head _) k hk).elim id fun h => h.elim
/-- What a variable holds whole, as a slice of so many. -/
theorem R_box {α : Type} {E : Enc α} {w : World} {g : Nat} {cs : List Value} {t : TypeId} (xs : List α) (h : Box w g cs.toArray t) (hc : cs = E.all xs) (hm : xs.length ≤ 9223372036854775807) : E.R w (.slice (some ⟨g, 0, none⟩) xs.length xs.length) xs := by
  subst hc
  refine ⟨by rw [Enc.all_length], some ⟨g, 0, none⟩, xs.length, rfl, Nat.le_refl _, hm, .inr ⟨_, rfl, fun j u hj => ?_⟩⟩
  have ha : (⟨g, 0, none⟩ : Addr).add j = ⟨g, j, none⟩ := by unfold Addr.add; split <;> simp_all
  rw [ha, h.cell j]
  simpa using hj
/-- A slice's three parts. -/
structure Sl where
  a : Option Addr
  (n c : Nat)
def Sl.val (s : Sl) : Value := .slice s.a s.n s.c
def encSl : Enc Sl := ⟨1, by decide, fun s => [.slice s.a s.n s.c], fun _ => rfl, fun _ u hu => by rw [List.mem_singleton.1 hu]; rfl⟩
end Go.Proofs.Ytebpacmhdkgfeaa


/- Regions that draw their order, in which two loads of a variable each lead to a call that hands back new memory. Over any program. -/
namespace Go.Proofs.Ytebpacmhdkgfeaa
open Go.RowKit

theorem enters {P : Program} {f : FuncId} {fn : Func} (hf : P.funcs[f]? = some fn) (hname : (fn.name == "runtime.NumGoroutine") = false) (hb : fn.body.isNone = false) (args : Array Value) (w : World) :
    (callFunc f args).run P w = .ok (.enter f args) w := by
  have h1 : fn.name ≠ "runtime.NumGoroutine" := by simpa using hname
  have h2 : ¬ fn.body = none := by intro h; simp [h] at hb
  simp [callFunc, hf, h1, h2, Sem.run, program]
/-- Two items change places. -/
theorem Loc.comm {w0 w : World} {M : Nat → Prop} {l : List Item} {i j : Item} (h : Loc w0 M w (i :: j :: l)) : Loc w0 M w (j :: i :: l) := by
  have ha := h.apart
  rw [List.pairwise_cons, List.pairwise_cons] at ha
  obtain ⟨h1, h2, h3⟩ := ha
  refine ⟨h.mod, fun k hk => h.at_ k ?_, fun k hk => h.new k ?_, List.pairwise_cons.2 ⟨fun k hk => ?_, List.pairwise_cons.2 ⟨fun k hk => h1 k (.tail _ hk), h3⟩⟩⟩
  · rcases List.mem_cons.1 hk with rfl | hk
    · exact .tail _ (.head _)
    · rcases List.mem_cons.1 hk with rfl | hk
      · exact .head _
      · exact .tail _ (.tail _ hk)
  · rcases List.mem_cons.1 hk with rfl | hk
    · exact .tail _ (.head _)
    · rcases List.mem_cons.1 hk with rfl | hk
      · exact .head _
      · exact .tail _ (.tail _ hk)
  · rcases List.mem_cons.1 hk with rfl | hk
    · exact fun b hb hb' => h1 j (.head _) b hb' hb
    · exact h2 k hk
section
variable {P : Program} {md : Region.Mode} {ops : Array Oper} {Q : Exit → Act → World → Prop}
theorem wpOp_runW {i : Nat} {o : Oper} {a : Act} {w w' : World} {v : Value} {K : Act → World → Prop} (hi : ops[i]? = some o) (hw : Region.wanted o (yielded ops a.tmps) = true) (hr : (execOp a.eval o).run P w = .ok (.value v) w') (h : K (a.put o.dst v) w') : wpOp P ops Q i K a w := by
  unfold wpOp
  simp only [hi, hw, if_true]
  refine .inl ?_
  unfold Oper.wp
  rw [hr]
  exact h
/-- Wanted in whatever frame that is as a but for the slots of ds. -/
def Wd (ops : Array Oper) (o : Oper) (a : Act) (ds : List Tmp) : Prop := ∀ b : Act, b.tmps.size = a.tmps.size → (∀ p, p ∉ ds → b.eval (.tmp p) = a.eval (.tmp p)) → Region.wanted o (yielded ops b.tmps) = true
theorem Wd.put {o : Oper} {a b : Act} {ds : List Tmp} (h : Wd ops o a ds) (hz : b.tmps.size = a.tmps.size) (hb : ∀ p, p ∉ ds → b.eval (.tmp p) = a.eval (.tmp p)) : Region.wanted o (yielded ops b.tmps) = true := h b hz hb
/-- One operation alone may come. -/
theorem wpAny_one {f i : Nat} {done : Array Bool} {a : Act} {w : World} (r : Region.ready md ops done = [i]) (h : wpOp P ops Q i (fun a' w' => wpAny P md ops Q f (done.setIfInBounds i true) a' w') a w) : wpAny P md ops Q (f + 1) done a w :=
  wpAny_all r (by simp) fun x hx => by obtain rfl := List.mem_singleton.1 hx; exact h
theorem run_litL {o : Oper} {a : Act} {W : World} {t : TypeId} {n : Nat} {parts : Array (Nat × Operand)} {e : TypeId} {sz : Nat} {z : Value} {cs : List Value} [ht : SliceT P t e] [hz : ZeroT P e z] [hs : SizeT P e sz] (ho : o.op = .buildSlice t n parts)
    (hn : decide (n * sz ≤ 16777216) = true) (h0 : decide (0 < n * sz) = true) (hfill : Instr.fill (fun i => some (i * sz, sz)) ((Array.range (n * sz)).map fun j => z.cells[j % z.cells.size]!) (parts.map fun (i, x) => (i, a.eval x)).toList = some cs.toArray) :
    (execOp a.eval o).run P W = .ok (.value (.slice (some ⟨W.heap.size, 0, none⟩) n n)) (W.alloc (.cells cs.toArray e)) := by
  obtain ⟨i, hi, hzz⟩ := Option.map_eq_some_iff.1 hz.zero
  have hsz : i.size = sz := by have := hs.size; simpa [hi] using this
  have h1 : ¬ n * sz > 2 ^ 24 := by have := of_decide_eq_true hn; omega
  have h2 : ¬ n * sz = 0 := by have := of_decide_eq_true h0; omega
  simp at hfill
  simp [execOp, ho, Instr.buildSlice, run_underlying ht.slice, sizeOf, typeInfo, hi, hsz, zeroValue, hzz, h1, h2, hfill, newRow]
end
end Go.Proofs.Ytebpacmhdkgfeaa


/- cmp.Compare and cmp.Or as plain functions. -/
namespace Go.Proofs.Ytebpacmhdkgfeaa
open Go.RowKit
set_option maxHeartbeats 1000000

def icmp (a b : Int) : Int := if a < b then -1 else if b < a then 1 else 0
def slt (a b : ByteArray) : Bool := Op.bytesLess a.toList b.toList
def scmp (a b : ByteArray) : Int := if slt a b = true then -1 else if slt b a = true then 1 else 0
def orL : List Int → Int
  | [] => 0
  | x :: t => if x ≠ 0 then x else orL t
theorem orL_cons (x : Int) (t : List Int) : orL (x :: t) = if x ≠ 0 then x else orL t := rfl
theorem bless_irr : ∀ l : List UInt8, Op.bytesLess l l = false
  | [] => rfl
  | a :: l => by unfold Op.bytesLess; rw [bless_irr l]; simp
theorem bless_tri : ∀ x y : List UInt8, Op.bytesLess x y = false → Op.bytesLess y x = false → x = y
  | [], [] => fun _ _ => rfl
  | [], b :: y => fun h _ => by simp [Op.bytesLess] at h
  | a :: x, [] => fun _ h => by simp [Op.bytesLess] at h
  | a :: x, b :: y => fun h1 h2 => by
    unfold Op.bytesLess at h1 h2
    simp only [Bool.or_eq_false_iff, decide_eq_false_iff_not, UInt8.not_lt, Bool.and_eq_false_iff, beq_eq_false_iff_ne] at h1 h2
    have e : a = b := UInt8.le_antisymm h2.1 h1.1
    subst e
    rw [bless_tri x y (h1.2.resolve_left (by simp)) (h2.2.resolve_left (by simp))]
theorem bless_asymm : ∀ x y : List UInt8, Op.bytesLess x y = true → Op.bytesLess y x = false
  | [], [] => fun h => by simp [Op.bytesLess] at h
  | _ :: _, [] => fun h => by simp [Op.bytesLess] at h
  | [], b :: y => fun _ => by simp [Op.bytesLess]
  | a :: x, b :: y => fun h => by
    unfold Op.bytesLess at h ⊢
    simp only [Bool.or_eq_true, decide_eq_true_eq, Bool.and_eq_true, beq_iff_eq] at h
    rcases h with h | ⟨rfl, h⟩
    · have h1 : ¬ b < a := by rw [UInt8.lt_iff_toNat_lt] at *; omega
      have h2 : ¬ b = a := by rintro rfl; rw [UInt8.lt_iff_toNat_lt] at h; omega
      simp [h1, h2]
    · simp [bless_asymm x y h, UInt8.lt_irrefl]
theorem bless_trans : ∀ x y z : List UInt8, Op.bytesLess x y = true → Op.bytesLess y z = true → Op.bytesLess x z = true
  | _, [], [] => fun _ h => by simp [Op.bytesLess] at h
  | _, _ :: _, [] => fun _ h => by simp [Op.bytesLess] at h
  | [], [], _ :: _ => fun h _ => by simp [Op.bytesLess] at h
  | _ :: _, [], _ :: _ => fun h _ => by simp [Op.bytesLess] at h
  | [], _ :: _, _ :: _ => fun _ _ => rfl
  | a :: x, b :: y, c :: z => fun h1 h2 => by
    unfold Op.bytesLess at h1 h2 ⊢
    simp only [Bool.or_eq_true, decide_eq_true_eq, Bool.and_eq_true, beq_iff_eq] at h1 h2 ⊢
    rcases h1 with h1 | ⟨rfl, h1⟩
    · rcases h2 with h2 | ⟨rfl, h2⟩
      · left; rw [UInt8.lt_iff_toNat_lt] at *; omega
      · exact .inl h1
    · rcases h2 with h2 | ⟨rfl, h2⟩
      · exact .inl h2
      · exact .inr ⟨rfl, bless_trans x y z h1 h2⟩
theorem toList_inj {a b : ByteArray} (h : a.toList = b.toList) : a = b := by
  rw [Lib.toList_data, Lib.toList_data] at h
  cases a with | mk x => cases b with | mk y => cases x; cases y; simp at h; rw [h]
theorem slt_irr (a : ByteArray) : slt a a = false := bless_irr _
theorem slt_tri {a b : ByteArray} (h1 : slt a b = false) (h2 : slt b a = false) : a = b := toList_inj (bless_tri _ _ h1 h2)
theorem slt_trans {a b c : ByteArray} (h1 : slt a b = true) (h2 : slt b c = true) : slt a c = true := bless_trans _ _ _ h1 h2
theorem str_neq (t : TypeId) (a : ByteArray) (w : World) : (binOp .neq t (.string a) (.string a)).run Try.prog w = .ok (.bool false) w := by
  simp [binOp, Op.stringOp]
theorem int_neq (t : TypeId) (k : IntKind) (a : Int) (w : World) : (binOp .neq t (.int k a) (.int k a)).run Try.prog w = .ok (.bool false) w := by
  simp [binOp, Op.intCmp]

theorem isNaN_int (a : Int) (w : World) : Calls Try.prog 147 #[.int .i64 a] w fun e w' => e = .returned (.bool false) ∧ w' = w := by
  have hne := fun t w => int_neq t .i64 a w
  go_enter Try.func147, Try.ntmps147
  go_wp2
  go_ret
  exact ⟨rfl, rfl⟩
theorem compare_int (a b : Int) (w : World) : Calls Try.prog 93 #[.int .i64 a, .int .i64 b] w fun e w' => e = .returned (.int .i64 (icmp a b)) ∧ w' = w := by
  have hc : ∃ r, r = icmp a b := ⟨_, rfl⟩
  obtain ⟨r, hr⟩ := hc
  rw [← hr]
  unfold icmp at hr
  by_cases h1 : a < b
  · rw [if_pos h1] at hr
    have t1 : decide (a < b) = true := decide_eq_true h1
    subst hr
    go_enter Try.func93, Try.ntmps93
    go_wp2_with (go_at_call 147; (with_reducible refine (isNaN_int _ _).mono ?_); rintro e w1 ⟨rfl, rfl⟩)
    go_ret
    exact ⟨rfl, rfl⟩
  · by_cases h2 : b < a
    · rw [if_neg h1, if_pos h2] at hr
      have t1 : decide (a < b) = false := decide_eq_false h1
      have t2 : decide (b < a) = true := decide_eq_true h2
      subst hr
      go_enter Try.func93, Try.ntmps93
      go_wp2_with (go_at_call 147; (with_reducible refine (isNaN_int _ _).mono ?_); rintro e w1 ⟨rfl, rfl⟩)
      go_ret
      exact ⟨rfl, rfl⟩
    · rw [if_neg h1, if_neg h2] at hr
      have t1 : decide (a < b) = false := decide_eq_false h1
      have t2 : decide (b < a) = false := decide_eq_false h2
      subst hr
      go_enter Try.func93, Try.ntmps93
      go_wp2_with (go_at_call 147; (with_reducible refine (isNaN_int _ _).mono ?_); rintro e w1 ⟨rfl, rfl⟩)
      go_ret
      exact ⟨rfl, rfl⟩
theorem isNaN_uint64 (a : Int) (w : World) : Calls Try.prog 175 #[.int .u64 a] w fun e w' => e = .returned (.bool false) ∧ w' = w := by
  have hne := fun t w => int_neq t .u64 a w
  go_enter Try.func175, Try.ntmps175
  go_wp2
  go_ret
  exact ⟨rfl, rfl⟩
theorem compare_uint64 (a b : Int) (w : World) : Calls Try.prog 148 #[.int .u64 a, .int .u64 b] w fun e w' => e = .returned (.int .i64 (icmp a b)) ∧ w' = w := by
  have hc : ∃ r, r = icmp a b := ⟨_, rfl⟩
  obtain ⟨r, hr⟩ := hc
  rw [← hr]
  unfold icmp at hr
  by_cases h1 : a < b
  · rw [if_pos h1] at hr
    have t1 : decide (a < b) = true := decide_eq_true h1
    subst hr
    go_enter Try.func148, Try.ntmps148
    go_wp2_with (go_at_call 175; (with_reducible refine (isNaN_uint64 _ _).mono ?_); rintro e w1 ⟨rfl, rfl⟩)
    go_ret
    exact ⟨rfl, rfl⟩
  · by_cases h2 : b < a
    · rw [if_neg h1, if_pos h2] at hr
      have t1 : decide (a < b) = false := decide_eq_false h1
      have t2 : decide (b < a) = true := decide_eq_true h2
      subst hr
      go_enter Try.func148, Try.ntmps148
      go_wp2_with (go_at_call 175; (with_reducible refine (isNaN_uint64 _ _).mono ?_); rintro e w1 ⟨rfl, rfl⟩)
      go_ret
      exact ⟨rfl, rfl⟩
    · rw [if_neg h1, if_neg h2] at hr
      have t1 : decide (a < b) = false := decide_eq_false h1
      have t2 : decide (b < a) = false := decide_eq_false h2
      subst hr
      go_enter Try.func148, Try.ntmps148
      go_wp2_with (go_at_call 175; (with_reducible refine (isNaN_uint64 _ _).mono ?_); rintro e w1 ⟨rfl, rfl⟩)
      go_ret
      exact ⟨rfl, rfl⟩
theorem isNaN_string (a : ByteArray) (w : World) : Calls Try.prog 155 #[.string a] w fun e w' => e = .returned (.bool false) ∧ w' = w := by
  have hne := fun t w => str_neq t a w
  go_enter Try.func155, Try.ntmps155
  go_wp2
  go_ret
  exact ⟨rfl, rfl⟩
theorem compare_string (a b : ByteArray) (w : World) : Calls Try.prog 112 #[.string a, .string b] w fun e w' => e = .returned (.int .i64 (scmp a b)) ∧ w' = w := by
  have hc : ∃ r, r = scmp a b := ⟨_, rfl⟩
  obtain ⟨r, hr⟩ := hc
  rw [← hr]
  unfold scmp at hr
  have e1 : slt a b = Op.bytesLess a.toList b.toList := rfl
  have e2 : slt b a = Op.bytesLess b.toList a.toList := rfl
  rw [e1, e2] at hr
  cases h1 : Op.bytesLess a.toList b.toList
  · rw [h1] at hr
    cases h2 : Op.bytesLess b.toList a.toList
    · rw [h2] at hr
      have h3 : (a.toList == b.toList) = true := by rw [bless_tri _ _ h1 h2]; simp
      replace hr : r = 0 := hr
      clear e1 e2
      subst hr
      go_enter Try.func112, Try.ntmps112
      go_wp2_with (go_at_call 155; (with_reducible refine (isNaN_string _ _).mono ?_); rintro e w1 ⟨rfl, rfl⟩)
      go_ret
      exact ⟨rfl, rfl⟩
    · rw [h2] at hr
      have h3 : (a.toList == b.toList) = false := by
        cases h4 : a.toList == b.toList
        · rfl
        · rw [eq_of_beq h4, bless_irr] at h2; cases h2
      replace hr : r = 1 := hr
      clear e1 e2
      subst hr
      go_enter Try.func112, Try.ntmps112
      go_wp2_with (go_at_call 155; (with_reducible refine (isNaN_string _ _).mono ?_); rintro e w1 ⟨rfl, rfl⟩)
      go_ret
      exact ⟨rfl, rfl⟩
  · rw [h1] at hr
    replace hr : r = -1 := hr
    clear e1 e2
    subst hr
    go_enter Try.func112, Try.ntmps112
    go_wp2_with (go_at_call 155; (with_reducible refine (isNaN_string _ _).mono ?_); rintro e w1 ⟨rfl, rfl⟩)
    go_ret
    exact ⟨rfl, rfl⟩
instance : SizeT Try.prog 3 (encI .i64).sz := inferInstanceAs (SizeT Try.prog 3 1)
theorem cmp_or (v : Value) (xs : List Int) (w : World) (h : (encI .i64).R w v xs) : Calls Try.prog 92 #[v] w fun e w' => e = .returned (.int .i64 (orL xs)) ∧ w' = w := by
  have hm := R_max h
  obtain ⟨ao, c, rfl, hel⟩ := R_elem h
  clear h
  go_enter Try.func92, Try.ntmps92
  go_wp2
  go_loopw [8] (fun i wr => ∃ k : Nat, k ≤ xs.length ∧ i = .int .i64 k ∧ orL (xs.drop k) = orL xs ∧ wr = w) (fun i _ => xs.length - (intOf i).toNat)
  case atStart => exact ⟨0, by omega, rfl, rfl, rfl⟩
  case round =>
    obtain ⟨k, hk, rfl, ho, rfl⟩ := hrel
    by_cases hlt : k < xs.length
    · obtain ⟨g, off, rfl, hr⟩ := hel k hlt
      have hd : xs.drop k = xs[k] :: xs.drop (k + 1) := List.drop_eq_getElem_cons hlt
      rw [hd] at ho
      have hrW : World.rangeAt _ g (off + k * 1) [.int .i64 xs[k]] := hr
      clear hr hd
      generalize xs[k] = x at *
      have HO := Lib.hid ho
      clear ho
      by_cases hx : x = 0
      · have t1 : (x == 0) = true := by simpa using hx
        have HO2 : Hid (orL (xs.drop (k + 1)) = orL xs) := Lib.hid (by have h9 := HO.out; rw [orL_cons, if_neg (by simpa using hx)] at h9; exact h9)
        go_wp2_with (first | ((with_reducible refine qF rfl rfl ?_); refine lL rfl rfl rfl rfl hlt ?_) | ((with_reducible refine gate (N := 11) rfl ?_); refine ev_loadR1 rfl rfl rfl hrW ?_))
        go_roundw
        case rel => exact ⟨k + 1, by omega, by go_num, HO2.out, by trivial⟩
        case measure => simp [intOf]; omega
      · have t1 : (x == 0) = false := by simpa using hx
        have HO2 : Hid (x = orL xs) := Lib.hid (by have h9 := HO.out; rw [orL_cons, if_pos hx] at h9; exact h9)
        go_wp2_with (first | ((with_reducible refine qF rfl rfl ?_); refine lL rfl rfl rfl rfl hlt ?_) | ((with_reducible refine gate (N := 11) rfl ?_); refine ev_loadR1 rfl rfl rfl hrW ?_))
        go_ret
        exact ⟨by rw [← HO2.out]; rfl, by trivial⟩
    · obtain rfl : k = xs.length := by omega
      have HO2 : Hid (0 = orL xs) := Lib.hid (by rw [List.drop_length] at ho; exact ho)
      clear ho
      go_wp2
      go_ret
      exact ⟨by rw [← HO2.out]; rfl, by trivial⟩
end Go.Proofs.Ytebpacmhdkgfeaa


/- What an argument of cells holds: numbers, bools, strings, slices, in structs and arrays, however nested. Over any program. -/
namespace Go.Proofs.Ytebpacmhdkgfeaa
open Go.ChangeShapes Go.WideShapes Go.RowKit Go.Deep

inductive Leg where
  | int (k : IntKind)
  | str
  | bool
  | sl (t : TypeId)
def Leg.is (S : TypeId → Value → Prop) (B : Nat) : Leg → Value → Prop
  | .int k, v => ∃ n, v = .int k n ∧ (Lit.int k n).wf = true
  | .str, v => ∃ s : ByteArray, v = .string s ∧ s.size ≤ B
  | .bool, v => ∃ b, v = .bool b
  | .sl t, v => S t v
def FitsR (S : TypeId → Value → Prop) (B : Nat) : List Leg → List Value → Prop
  | [], [] => True
  | l :: ls, v :: vs => l.is S B v ∧ FitsR S B ls vs
  | _, _ => False
theorem FitsR.length {S : TypeId → Value → Prop} {B : Nat} : ∀ {ls : List Leg} {vs : List Value}, FitsR S B ls vs → vs.length = ls.length
  | [], [], _ => rfl
  | _ :: _, _ :: _, h => by simp [FitsR.length h.2]
theorem FitsR.append {S : TypeId → Value → Prop} {B : Nat} : ∀ {a b : List Leg} {x y : List Value}, FitsR S B a x → FitsR S B b y → FitsR S B (a ++ b) (x ++ y)
  | [], _, [], _, _, h => h
  | _ :: _, _, _ :: _, _, h1, h2 => ⟨h1.1, FitsR.append h1.2 h2⟩
def legsF (P : Program) (rec : TypeId → Option (List Leg)) : List Field → Nat → Option (List Leg)
  | [], _ => some []
  | f :: fs, off => if f.offset = off then (match rec f.type with
    | some l => if P.cellsOf f.type = l.length then (match legsF P rec fs (off + l.length) with | some r => some (l ++ r) | none => none) else none
    | none => none) else none
def legsA (l : List Leg) : Nat → List Leg
  | 0 => []
  | n + 1 => l ++ legsA l n
def legs (P : Program) : Nat → TypeId → Option (List Leg)
  | 0, _ => none
  | n + 1, t => match P.underlying t with
    | some (.int k) => some [.int k]
    | some .string => some [.str]
    | some .bool => some [.bool]
    | some (.slice _) => some [.sl t]
    | some (.struct fs) => match legsF P (legs P n) fs.toList 0 with | some ls => if P.cellsOf t = ls.length then some ls else none | none => none
    | some (.array m e) => match legs P n e with | some l => if P.cellsOf e = l.length ∧ P.cellsOf t = m * l.length then some (legsA l m) else none | none => none
    | _ => none
theorem legsF_fits {P : Program} {rec : TypeId → Option (List Leg)} {R : TypeId → List Value → Prop} {S : TypeId → Value → Prop} {B : Nat} (hrec : ∀ t l cs, rec t = some l → R t cs → FitsR S B l cs) (cs : List Value) :
    ∀ (fs : List Field) (off : Nat) (ls : List Leg), legsF P rec fs off = some ls → (∀ (i : Nat) f, fs[i]? = some f → R f.type ((cs.drop f.offset).take (P.cellsOf f.type))) → FitsR S B ls ((cs.drop off).take ls.length) := by
  intro fs
  induction fs with
  | nil =>
    intro off ls h _
    simp only [legsF, Option.some.injEq] at h
    subst h
    simp [FitsR]
  | cons f fs ih =>
    intro off ls h hf
    simp only [legsF] at h
    split at h
    · rename_i ho
      split at h
      · rename_i l hl
        split at h
        · rename_i hc
          split at h
          · rename_i r hr
            injection h with h
            subst h
            have h1 := hrec _ _ _ hl (hf 0 f rfl)
            have h2 := ih _ _ hr (fun i g hg => hf (i + 1) g (by simpa using hg))
            rw [ho, hc] at h1
            have e : (cs.drop off).take (l ++ r).length = (cs.drop off).take l.length ++ (cs.drop (off + l.length)).take r.length := by
              rw [List.length_append, List.take_add, List.drop_drop]
            rw [e]
            exact h1.append h2
          · cases h
        · cases h
      · cases h
    · cases h
/-- What is asked of all that is read, part by part: of a text that it is no longer than B. -/
structure Keep {H : Type} (K : DataW H → Prop) (B : Nat) : Prop where
  agg : ∀ l, K (.agg l) → ∀ d ∈ l, K d
  slice : ∀ l r, K (.slice l r) → ∀ d ∈ l, K d
  str : ∀ b : List UInt8, b.length ≤ maxLen → K (.lit (.string b)) → b.length ≤ B
theorem Keep.all {H : Type} : Keep (H := H) (fun _ => True) maxLen := ⟨fun _ _ _ _ => trivial, fun _ _ _ _ _ => trivial, fun _ h _ => h⟩
/-- A value that is trodden through as one of type t. -/
def TrodS {H : Type} (K : DataW H → Prop) (enc : TypeId × Value → H) (P : Program) (w : World) (base : Nat) (spare : Nat → Bool) (held : Bool) (t : TypeId) (v : Value) : Prop := ∃ (fuel : Nat) (x : DataW H × List MemPlace), DataW.trod enc P w base spare held fuel t [v] = some x ∧ K x.1
section
variable {H : Type} {enc : TypeId × Value → H} {P : Program} {w : World} {base : Nat} {spare : Nat → Bool} {held : Bool} {K : DataW H → Prop} {B : Nat}
theorem legs_fits (hK : Keep K B) : ∀ (n : Nat) (t : TypeId) (ls : List Leg) (fuel : Nat) (cs : List Value) (x : DataW H × List MemPlace), legs P n t = some ls → DataW.trod enc P w base spare held fuel t cs = some x → K x.1 → FitsR (TrodS K enc P w base spare held) B ls cs := by
  intro n
  induction n with
  | zero => intro t ls fuel cs x h; simp [legs] at h
  | succ n ih =>
    intro t ls fuel cs x h ht hx
    simp only [legs] at h
    split at h
    · rename_i k hu
      injection h with h; subst h
      obtain ⟨m, rfl, _, hw⟩ := DataW.trod_int hu ht
      exact ⟨⟨m, rfl, hw⟩, trivial⟩
    · rename_i hu
      injection h with h; subst h
      obtain ⟨s, rfl, rfl, hw⟩ := DataW.trod_string hu ht
      have e : s.data.toList.length = s.size := Array.length_toList
      exact ⟨⟨s, rfl, by rw [← e] at hw ⊢; exact hK.str _ hw hx⟩, trivial⟩
    · rename_i hu
      injection h with h; subst h
      obtain ⟨s, rfl, _⟩ := DataW.trod_bool hu ht
      exact ⟨⟨s, rfl⟩, trivial⟩
    · rename_i e hu
      injection h with h; subst h
      rcases open_slice hu ht with ⟨rfl, -⟩ | ⟨a, len, cap, m, n, D, Pl, rfl, -⟩
      · exact ⟨⟨fuel, x, ht, hx⟩, trivial⟩
      · exact ⟨⟨fuel, x, ht, hx⟩, trivial⟩
    · rename_i fs hu
      split at h
      · rename_i l hl
        split at h
        · rename_i hc
          injection h with h; subst h
          obtain ⟨xs, m, _, rfl, hlen, hxl, hf⟩ := DataW.trod_struct hu ht
          have h1 := legsF_fits (P := P) (R := fun t cs => ∃ x, DataW.trod enc P w base spare held m t cs = some x ∧ K x.1) (fun t l cs h1 h2 => h2.elim fun x hx => ih t l m cs x h1 hx.1 hx.2) cs fs.toList 0 l hl (fun i f hi => by
            have hi' : fs[i]? = some f := by simpa using hi
            have hlt : i < xs.length := by rw [hxl]; exact (Array.getElem?_eq_some_iff.1 hi').1
            exact ⟨xs[i], (hf i f hi').trans (List.getElem?_eq_getElem hlt), hK.agg _ hx _ (List.mem_map.2 ⟨_, List.getElem_mem hlt, rfl⟩)⟩)
          rw [List.drop_zero, List.take_of_length_le (by omega)] at h1
          exact h1
        · cases h
      · cases h
    · rename_i m e hu
      split at h
      · rename_i l hl
        split at h
        · rename_i hc
          injection h with h; subst h
          obtain ⟨xs, k, _, rfl, hlen, hxl, hf⟩ := DataW.trod_array hu ht
          have key : ∀ (q : Nat) (i : Nat), i + q = m → FitsR (TrodS K enc P w base spare held) B (legsA l q) ((cs.drop (i * l.length)).take (q * l.length)) := by
            intro q
            induction q with
            | zero => intro i _; simp [legsA, FitsR]
            | succ q ihq =>
              intro i hi
              have hlt : i < xs.length := by omega
              have h1 := ih e l k _ _ hl ((hf i (by omega)).trans (List.getElem?_eq_getElem hlt)) (hK.agg _ hx _ (List.mem_map.2 ⟨_, List.getElem_mem hlt, rfl⟩))
              rw [hc.1] at h1
              have h2 := ihq (i + 1) (by omega)
              have e2 : (cs.drop (i * l.length)).take ((q + 1) * l.length) = (cs.drop (i * l.length)).take l.length ++ (cs.drop ((i + 1) * l.length)).take (q * l.length) := by
                rw [Nat.add_mul, Nat.one_mul, Nat.add_comm (q * l.length), List.take_add, List.drop_drop, Nat.add_mul, Nat.one_mul]
              rw [e2]
              exact h1.append h2
          have h3 := key m 0 (by omega)
          rw [Nat.zero_mul, List.drop_zero, List.take_of_length_le (by omega)] at h3
          exact h3
        · cases h
      · cases h
    · cases h
/-- A slice whose elements open, each as one of a row. -/
theorem open_row {α : Type} (E : Enc α) {Good : α → Prop} {t e : TypeId} {v : Value} (hu : P.underlying t = some (.slice e)) (hC : P.cellsOf e = E.sz) (hK : Keep K B) (hel : ∀ fuel cs x, DataW.trod enc P w base spare held fuel e cs = some x → K x.1 → ∃ d, cs = E.cells d ∧ Good d)
    (h : TrodS K enc P w base spare held t v) : ∃ ds : List α, E.R w v ds ∧ ∀ d ∈ ds, Good d := by
  obtain ⟨fuel, x, h, hxK⟩ := h
  rcases open_slice hu h with ⟨h0, -⟩ | ⟨a, len, cap, m, n, D, Pl, hcs, hb, hl, hm, hmm, rfl, hi⟩
  · injection h0 with h0 _
    subst h0
    exact ⟨[], Enc.R.none w, by simp⟩
  · injection hcs with hcs _
    subst hcs
    have hlm : len ≤ m := by rw [hmm]; split <;> omega
    have key : ∀ q, q ≤ len → ∃ ds : List α, ds.length = q ∧ (∀ d ∈ ds, Good d) ∧ ∀ i, (hi : i < ds.length) → ∀ j, j < E.sz → w.cell? (a.add (i * E.sz + j)) = (E.cells ds[i])[j]? := by
      intro q
      induction q with
      | zero => intro _; exact ⟨[], rfl, by simp, fun i hi => by simp at hi⟩
      | succ q ih =>
        intro hq
        obtain ⟨ds, hds, hg, hd⟩ := ih (by omega)
        obtain ⟨cs', hc, ht⟩ := hi q (by omega)
        rw [hC] at hc
        obtain ⟨d, rfl, hgd⟩ := hel _ _ _ ht (hK.slice _ _ hxK _ (List.mem_map.2 ⟨q, List.mem_range.2 (by omega), rfl⟩))
        obtain ⟨_, h1, h2⟩ := World.cells?_some hc
        refine ⟨ds ++ [d], by simp [hds], fun d' hd' => ?_, fun i hi' j hj => ?_⟩
        · rcases List.mem_append.1 hd' with h | h
          · exact hg d' h
          · rw [List.mem_singleton.1 h]; exact hgd
        by_cases h3 : i < ds.length
        · rw [List.getElem_append_left h3]; exact hd i h3 j hj
        · have h4 : i = q := by simp at hi'; omega
          subst h4
          rw [← Go.Deep.add_add, h2 j hj]
          simp [hds]
    obtain ⟨ds, hds, hg, hd⟩ := key len (Nat.le_refl _)
    refine ⟨ds, ⟨by rw [Enc.all_length], some a, cap, by rw [hds], by omega, by simp only [maxLen] at hm; omega, .inr ⟨a, rfl, fun k u hu => ?_⟩⟩, hg⟩
    have hk : k < ds.length * E.sz := by have := (List.getElem?_eq_some_iff.1 hu).1; rw [Enc.all_length] at this; exact this
    have hp := E.pos
    have h1 : k / E.sz < ds.length := (Nat.div_lt_iff_lt_mul hp).2 hk
    have h2 := hd (k / E.sz) h1 (k % E.sz) (Nat.mod_lt _ hp)
    have h3 := E.all_get ds (k / E.sz) (k % E.sz) h1 (Nat.mod_lt _ hp)
    have e : k / E.sz * E.sz + k % E.sz = k := by rw [Nat.mul_comm]; exact Nat.div_add_mod k E.sz
    rw [e] at h2 h3
    rw [h2, ← hu, h3]
end
end Go.Proofs.Ytebpacmhdkgfeaa


/- A mark, or a stamp: two numbers. -/
namespace Go.Proofs.Ytebpacmhdkgfeaa
open Go.RowKit

structure Mk where
  (boot n : Int)
  deriving DecidableEq
abbrev Mk.val (m : Mk) : Value := .agg #[.int .i64 m.boot, .int .i64 m.n]
def I64 (n : Int) : Prop := -9223372036854775808 ≤ n ∧ n ≤ 9223372036854775807
end Go.Proofs.Ytebpacmhdkgfeaa


/- Vectors: plain data. -/
namespace Go.Proofs.Ytebpacmhdkgfeaa
open Go.RowKit

structure V8 where
  (a0 a1 a2 a3 a4 a5 a6 a7 : Int)
  deriving DecidableEq
namespace V8
def list (v : V8) : List Int := [v.a0, v.a1, v.a2, v.a3, v.a4, v.a5, v.a6, v.a7]
def get (v : V8) (j : Nat) : Int := v.list.getD j 0
abbrev val (v : V8) : Value := .agg #[.int .i64 v.a0, .int .i64 v.a1, .int .i64 v.a2, .int .i64 v.a3, .int .i64 v.a4, .int .i64 v.a5, .int .i64 v.a6, .int .i64 v.a7]
end V8

theorem idx8 (v : V8) (j : Nat) (hj : j < 8) : ∀ w, (Instr.index 23 v.val (.int .i64 (j : Int))).run Try.prog w = .ok (.int .i64 (v.get j)) w := by
  have h : j = 0 ∨ j = 1 ∨ j = 2 ∨ j = 3 ∨ j = 4 ∨ j = 5 ∨ j = 6 ∨ j = 7 := by omega
  rcases h with rfl | rfl | rfl | rfl | rfl | rfl | rfl | rfl <;> intro w <;> kernel_rfl

def V8.zero : V8 := ⟨0, 0, 0, 0, 0, 0, 0, 0⟩
def V8.cells (v : V8) : List Value := [.int .i64 v.a0, .int .i64 v.a1, .int .i64 v.a2, .int .i64 v.a3, .int .i64 v.a4, .int .i64 v.a5, .int .i64 v.a6, .int .i64 v.a7]
end Go.Proofs.Ytebpacmhdkgfeaa


/- States as they lie in memory, and what they say. -/
namespace Go.Proofs.Ytebpacmhdkgfeaa
open Go.ChangeShapes Go.WideShapes Go.RowKit Go.Deep

structure Atr where
  at_ : Mk
  (mode time : Int)
  deriving DecidableEq
structure Siz where
  at_ : Mk
  n : Int
  deriving DecidableEq
structure Pce where
  idx : Int
  at_ : Mk
  data : ByteArray
  deriving DecidableEq
structure Xat where
  name : ByteArray
  at_ : Mk
  val : ByteArray
  gone : Bool
  deriving DecidableEq
structure IHd where
  id : Mk
  kind : Int
  text : ByteArray
  attr : Atr
  size : Siz
  deriving DecidableEq
structure Ino where
  hd : IHd
  (p x : Sl)
structure Lnk where
  (id node at_ parent : Mk)
  name : ByteArray
  (alive dead : V8)
  deriving DecidableEq
structure Sta where
  seen : V8
  (nodes links : Sl)
structure InoD where
  hd : IHd
  ps : List Pce
  xs : List Xat
  deriving DecidableEq
/-- An inode as it lies there, and what it says. -/
structure Nd where
  s : Ino
  d : InoD
structure StaD where
  seen : V8
  nodes : List InoD
  links : List Lnk
  deriving DecidableEq
def Pce.cells (p : Pce) : List Value := [.int .i64 p.idx, .int .i64 p.at_.boot, .int .i64 p.at_.n, .string p.data]
def Xat.cells (x : Xat) : List Value := [.string x.name, .int .i64 x.at_.boot, .int .i64 x.at_.n, .string x.val, .bool x.gone]
def Ino.cells (i : Ino) : List Value := [.int .i64 i.hd.id.boot, .int .i64 i.hd.id.n, .int .i64 i.hd.kind, .string i.hd.text, .int .i64 i.hd.attr.at_.boot, .int .i64 i.hd.attr.at_.n, .int .i64 i.hd.attr.mode, .int .u64 i.hd.attr.time,
  .int .i64 i.hd.size.at_.boot, .int .i64 i.hd.size.at_.n, .int .i64 i.hd.size.n, .slice i.p.a i.p.n i.p.c, .slice i.x.a i.x.n i.x.c]
def Lnk.cells (l : Lnk) : List Value := [.int .i64 l.id.boot, .int .i64 l.id.n, .int .i64 l.node.boot, .int .i64 l.node.n, .int .i64 l.at_.boot, .int .i64 l.at_.n, .int .i64 l.parent.boot, .int .i64 l.parent.n, .string l.name,
  .int .i64 l.alive.a0, .int .i64 l.alive.a1, .int .i64 l.alive.a2, .int .i64 l.alive.a3, .int .i64 l.alive.a4, .int .i64 l.alive.a5, .int .i64 l.alive.a6, .int .i64 l.alive.a7,
  .int .i64 l.dead.a0, .int .i64 l.dead.a1, .int .i64 l.dead.a2, .int .i64 l.dead.a3, .int .i64 l.dead.a4, .int .i64 l.dead.a5, .int .i64 l.dead.a6, .int .i64 l.dead.a7]
def Sta.cells (s : Sta) : List Value := [.int .i64 s.seen.a0, .int .i64 s.seen.a1, .int .i64 s.seen.a2, .int .i64 s.seen.a3, .int .i64 s.seen.a4, .int .i64 s.seen.a5, .int .i64 s.seen.a6, .int .i64 s.seen.a7, .slice s.nodes.a s.nodes.n s.nodes.c, .slice s.links.a s.links.n s.links.c]
theorem ones_of {cs : List Value} (h : cs.all (·.oneCell') = true) : ∀ u ∈ cs, u.oneCell' = true := fun u hu => List.all_eq_true.1 h u hu
def encPc : Enc Pce := ⟨4, by decide, Pce.cells, fun _ => rfl, fun _ => ones_of rfl⟩
def encXt : Enc Xat := ⟨5, by decide, Xat.cells, fun _ => rfl, fun _ => ones_of rfl⟩
def encN : Enc Nd := ⟨13, by decide, fun n => n.s.cells, fun _ => rfl, fun _ => ones_of rfl⟩
def encK : Enc Lnk := ⟨25, by decide, Lnk.cells, fun _ => rfl, fun _ => ones_of rfl⟩
instance : SizeT Try.prog 71 encPc.sz := inferInstanceAs (SizeT Try.prog 71 4)
instance : SizeT Try.prog 73 encXt.sz := inferInstanceAs (SizeT Try.prog 73 5)
instance : SizeT Try.prog 43 encN.sz := inferInstanceAs (SizeT Try.prog 43 13)
instance : SizeT Try.prog 48 encK.sz := inferInstanceAs (SizeT Try.prog 48 25)

/-! ### What may lie there -/
structure Mk.I (m : Mk) : Prop where
  b : I64 m.boot
  n : I64 m.n
structure V8.I (v : V8) : Prop where
  all : ∀ k, k < 8 → I64 (v.list.getD k 0)
structure Pce.wf (B : Nat) (p : Pce) : Prop where
  idx : I64 p.idx
  at_ : p.at_.I
  data : p.data.size ≤ B
structure Xat.wf (B : Nat) (x : Xat) : Prop where
  name : x.name.size ≤ B
  at_ : x.at_.I
  val : x.val.size ≤ B
structure IHd.wf (B : Nat) (h : IHd) : Prop where
  id : h.id.I
  kind : I64 h.kind
  text : h.text.size ≤ B
  attr : h.attr.at_.I
  mode : I64 h.attr.mode
  time : 0 ≤ h.attr.time ∧ h.attr.time ≤ 18446744073709551615
  size : h.size.at_.I
  n : I64 h.size.n
structure Lnk.wf (B : Nat) (l : Lnk) : Prop where
  id : l.id.I
  node : l.node.I
  at_ : l.at_.I
  parent : l.parent.I
  name : l.name.size ≤ B
  alive : l.alive.I
  dead : l.dead.I
structure InoD.wf (B : Nat) (d : InoD) : Prop where
  hd : d.hd.wf B
  ps : ∀ p ∈ d.ps, p.wf B
  xs : ∀ x ∈ d.xs, x.wf B
structure StaD.wf (B : Nat) (d : StaD) : Prop where
  seen : d.seen.I
  nodes : ∀ n ∈ d.nodes, n.wf B
  links : ∀ l ∈ d.links, l.wf B

theorem StaD.wf.mono {B B' : Nat} {d : StaD} (h : d.wf B) (hB : B ≤ B') : d.wf B' :=
  ⟨h.seen, fun n hn => ⟨{ (h.nodes n hn).hd with text := Nat.le_trans (h.nodes n hn).hd.text hB }, fun p hp => { (h.nodes n hn).ps p hp with data := Nat.le_trans ((h.nodes n hn).ps p hp).data hB }, fun x hx => { (h.nodes n hn).xs x hx with name := Nat.le_trans ((h.nodes n hn).xs x hx).name hB, val := Nat.le_trans ((h.nodes n hn).xs x hx).val hB }⟩,
    fun l hl => { h.links l hl with name := Nat.le_trans (h.links l hl).name hB }⟩

/-! ### What memory says -/
structure Ino.Ok (w : World) (i : Ino) (d : InoD) : Prop where
  hd : i.hd = d.hd
  ps : encPc.R w i.p.val d.ps
  xs : encXt.R w i.x.val d.xs
structure Sta.Ok (w : World) (s : Sta) (d : StaD) : Prop where
  seen : s.seen = d.seen
  nodes : ∃ ns : List Nd, encN.R w s.nodes.val ns ∧ (∀ n ∈ ns, n.s.Ok w n.d) ∧ ns.map (·.d) = d.nodes
  links : encK.R w s.links.val d.links
theorem Ino.Ok.below {w w1 : World} {i : Ino} {d : InoD} (h : i.Ok w d) (hb : Below w.heap.size w w1) : i.Ok w1 d := ⟨h.hd, h.ps.below hb, h.xs.below hb⟩
theorem Sta.Ok.below {w w1 : World} {s : Sta} {d : StaD} (h : s.Ok w d) (hb : Below w.heap.size w w1) : s.Ok w1 d := by
  obtain ⟨ns, h1, h2, h3⟩ := h.nodes
  exact ⟨h.seen, ⟨ns, h1.below hb, fun n hn => (h2 n hn).below hb, h3⟩, h.links.below hb⟩

/-! ### Opened -/
theorem legs_pc : legs Try.prog 6 71 = some [.int .i64, .int .i64, .int .i64, .str] := by kernel_rfl
theorem legs_xt : legs Try.prog 6 73 = some [.str, .int .i64, .int .i64, .str, .bool] := by kernel_rfl
theorem legs_n : legs Try.prog 6 43 = some [.int .i64, .int .i64, .int .i64, .str, .int .i64, .int .i64, .int .i64, .int .u64, .int .i64, .int .i64, .int .i64, .sl 40, .sl 41] := by kernel_rfl
theorem legs_k : legs Try.prog 6 48 = some [.int .i64, .int .i64, .int .i64, .int .i64, .int .i64, .int .i64, .int .i64, .int .i64, .str, .int .i64, .int .i64, .int .i64, .int .i64, .int .i64, .int .i64, .int .i64, .int .i64, .int .i64, .int .i64, .int .i64, .int .i64, .int .i64, .int .i64, .int .i64, .int .i64] := by kernel_rfl
theorem legs_s : legs Try.prog 6 27 = some [.int .i64, .int .i64, .int .i64, .int .i64, .int .i64, .int .i64, .int .i64, .int .i64, .sl 24, .sl 25] := by kernel_rfl
theorem i64_lit {n : Int} (h : (Lit.int .i64 n).wf = true) : I64 n := by
  have h1 : IntKind.i64.min ≤ n ∧ n ≤ IntKind.i64.max := by simpa [Lit.wf] using h
  exact h1
theorem u64_lit {n : Int} (h : (Lit.int .u64 n).wf = true) : 0 ≤ n ∧ n ≤ 18446744073709551615 := by
  have h1 : IntKind.u64.min ≤ n ∧ n ≤ IntKind.u64.max := by simpa [Lit.wf] using h
  exact h1
theorem v8_i {v : V8} (h0 : I64 v.a0) (h1 : I64 v.a1) (h2 : I64 v.a2) (h3 : I64 v.a3) (h4 : I64 v.a4) (h5 : I64 v.a5) (h6 : I64 v.a6) (h7 : I64 v.a7) : v.I := ⟨fun k hk => by
  have e : k = 0 ∨ k = 1 ∨ k = 2 ∨ k = 3 ∨ k = 4 ∨ k = 5 ∨ k = 6 ∨ k = 7 := by omega
  rcases e with rfl | rfl | rfl | rfl | rfl | rfl | rfl | rfl <;> assumption⟩
section
variable {H : Type} {enc : TypeId × Value → H} {w : World} {base : Nat} {spare : Nat → Bool} {held : Bool} {K : DataW H → Prop} {B : Nat}
theorem open_pc (hK : Keep K B) {fuel : Nat} {cs : List Value} {x : DataW H × List MemPlace} (h : DataW.trod enc Try.prog w base spare held fuel 71 cs = some x) (hx : K x.1) : ∃ d : Pce, cs = encPc.cells d ∧ d.wf B := by
  have hf := legs_fits hK 6 _ _ _ _ _ legs_pc h hx
  have hl := hf.length
  match cs, hl with
  | [c0, c1, c2, c3], _ =>
    obtain ⟨⟨n0, rfl, w0⟩, ⟨n1, rfl, w1⟩, ⟨n2, rfl, w2⟩, ⟨s, rfl, ws⟩, -⟩ := hf
    exact ⟨⟨n0, ⟨n1, n2⟩, s⟩, rfl, i64_lit w0, ⟨i64_lit w1, i64_lit w2⟩, ws⟩
theorem open_xt (hK : Keep K B) {fuel : Nat} {cs : List Value} {x : DataW H × List MemPlace} (h : DataW.trod enc Try.prog w base spare held fuel 73 cs = some x) (hx : K x.1) : ∃ d : Xat, cs = encXt.cells d ∧ d.wf B := by
  have hf := legs_fits hK 6 _ _ _ _ _ legs_xt h hx
  have hl := hf.length
  match cs, hl with
  | [c0, c1, c2, c3, c4], _ =>
    obtain ⟨⟨s, rfl, ws⟩, ⟨n1, rfl, w1⟩, ⟨n2, rfl, w2⟩, ⟨s2, rfl, ws2⟩, ⟨b, rfl⟩, -⟩ := hf
    exact ⟨⟨s, ⟨n1, n2⟩, s2, b⟩, rfl, ws, ⟨i64_lit w1, i64_lit w2⟩, ws2⟩
theorem open_k (hK : Keep K B) {fuel : Nat} {cs : List Value} {x : DataW H × List MemPlace} (h : DataW.trod enc Try.prog w base spare held fuel 48 cs = some x) (hx : K x.1) : ∃ d : Lnk, cs = encK.cells d ∧ d.wf B := by
  have hf := legs_fits hK 6 _ _ _ _ _ legs_k h hx
  have hl := hf.length
  match cs, hl with
  | [c0, c1, c2, c3, c4, c5, c6, c7, c8, c9, c10, c11, c12, c13, c14, c15, c16, c17, c18, c19, c20, c21, c22, c23, c24], _ =>
    obtain ⟨⟨n0, rfl, w0⟩, ⟨n1, rfl, w1⟩, ⟨n2, rfl, w2⟩, ⟨n3, rfl, w3⟩, ⟨n4, rfl, w4⟩, ⟨n5, rfl, w5⟩, ⟨n6, rfl, w6⟩, ⟨n7, rfl, w7⟩, ⟨s, rfl, ws⟩, ⟨m0, rfl, v0⟩, ⟨m1, rfl, v1⟩, ⟨m2, rfl, v2⟩, ⟨m3, rfl, v3⟩, ⟨m4, rfl, v4⟩, ⟨m5, rfl, v5⟩, ⟨m6, rfl, v6⟩, ⟨m7, rfl, v7⟩,
      ⟨k0, rfl, u0⟩, ⟨k1, rfl, u1⟩, ⟨k2, rfl, u2⟩, ⟨k3, rfl, u3⟩, ⟨k4, rfl, u4⟩, ⟨k5, rfl, u5⟩, ⟨k6, rfl, u6⟩, ⟨k7, rfl, u7⟩, -⟩ := hf
    exact ⟨⟨⟨n0, n1⟩, ⟨n2, n3⟩, ⟨n4, n5⟩, ⟨n6, n7⟩, s, ⟨m0, m1, m2, m3, m4, m5, m6, m7⟩, ⟨k0, k1, k2, k3, k4, k5, k6, k7⟩⟩, rfl, ⟨i64_lit w0, i64_lit w1⟩, ⟨i64_lit w2, i64_lit w3⟩, ⟨i64_lit w4, i64_lit w5⟩, ⟨i64_lit w6, i64_lit w7⟩, ws,
      v8_i (i64_lit v0) (i64_lit v1) (i64_lit v2) (i64_lit v3) (i64_lit v4) (i64_lit v5) (i64_lit v6) (i64_lit v7), v8_i (i64_lit u0) (i64_lit u1) (i64_lit u2) (i64_lit u3) (i64_lit u4) (i64_lit u5) (i64_lit u6) (i64_lit u7)⟩
theorem slice_val {t e : TypeId} (hu : Try.prog.underlying t = some (.slice e)) {v : Value} (h : TrodS K enc Try.prog w base spare held t v) : ∃ s : Sl, v = .slice s.a s.n s.c := by
  obtain ⟨fuel, x, h, -⟩ := h
  rcases open_slice hu h with ⟨h0, -⟩ | ⟨a, len, cap, m, n, D, Pl, hcs, -⟩
  · injection h0 with h0 _; exact ⟨⟨none, 0, 0⟩, h0⟩
  · injection hcs with hcs _; exact ⟨⟨some a, len, cap⟩, hcs⟩
theorem open_n (hK : Keep K B) {fuel : Nat} {cs : List Value} {x : DataW H × List MemPlace} (h : DataW.trod enc Try.prog w base spare held fuel 43 cs = some x) (hx : K x.1) : ∃ n : Nd, cs = encN.cells n ∧ n.s.Ok w n.d ∧ n.d.wf B := by
  have hf := legs_fits hK 6 _ _ _ _ _ legs_n h hx
  have hl := hf.length
  match cs, hl with
  | [c0, c1, c2, c3, c4, c5, c6, c7, c8, c9, c10, c11, c12], _ =>
    obtain ⟨⟨n0, rfl, w0⟩, ⟨n1, rfl, w1⟩, ⟨n2, rfl, w2⟩, ⟨s, rfl, ws⟩, ⟨n4, rfl, w4⟩, ⟨n5, rfl, w5⟩, ⟨n6, rfl, w6⟩, ⟨n7, rfl, w7⟩, ⟨n8, rfl, w8⟩, ⟨n9, rfl, w9⟩, ⟨n10, rfl, w10⟩, hp, hq, -⟩ := hf
    replace hp : TrodS K enc Try.prog w base spare held 40 c11 := hp
    replace hq : TrodS K enc Try.prog w base spare held 41 c12 := hq
    obtain ⟨p, rfl⟩ := slice_val Try.underlying40 hp
    obtain ⟨q, rfl⟩ := slice_val Try.underlying41 hq
    obtain ⟨ps, hps, wps⟩ := open_row encPc Try.underlying40 (by kernel_rfl) hK (fun _ _ _ h hx => open_pc hK h hx) hp
    obtain ⟨xs, hxs, wxs⟩ := open_row encXt Try.underlying41 (by kernel_rfl) hK (fun _ _ _ h hx => open_xt hK h hx) hq
    exact ⟨⟨⟨⟨⟨n0, n1⟩, n2, s, ⟨⟨n4, n5⟩, n6, n7⟩, ⟨⟨n8, n9⟩, n10⟩⟩, p, q⟩, ⟨⟨⟨n0, n1⟩, n2, s, ⟨⟨n4, n5⟩, n6, n7⟩, ⟨⟨n8, n9⟩, n10⟩⟩, ps, xs⟩⟩, rfl, ⟨rfl, hps, hxs⟩,
      ⟨⟨i64_lit w0, i64_lit w1⟩, i64_lit w2, ws, ⟨i64_lit w4, i64_lit w5⟩, i64_lit w6, u64_lit w7, ⟨i64_lit w8, i64_lit w9⟩, i64_lit w10⟩, wps, wxs⟩
theorem open_s (hK : Keep K B) {fuel : Nat} {cs : List Value} {x : DataW H × List MemPlace} (h : DataW.trod enc Try.prog w base spare held fuel 27 cs = some x) (hx : K x.1) : ∃ s : Sta, cs = s.cells ∧ ∃ d, s.Ok w d ∧ d.wf B := by
  have hf := legs_fits hK 6 _ _ _ _ _ legs_s h hx
  have hl := hf.length
  match cs, hl with
  | [c0, c1, c2, c3, c4, c5, c6, c7, c8, c9], _ =>
    obtain ⟨⟨n0, rfl, w0⟩, ⟨n1, rfl, w1⟩, ⟨n2, rfl, w2⟩, ⟨n3, rfl, w3⟩, ⟨n4, rfl, w4⟩, ⟨n5, rfl, w5⟩, ⟨n6, rfl, w6⟩, ⟨n7, rfl, w7⟩, hp, hq, -⟩ := hf
    replace hp : TrodS K enc Try.prog w base spare held 24 c8 := hp
    replace hq : TrodS K enc Try.prog w base spare held 25 c9 := hq
    obtain ⟨p, rfl⟩ := slice_val Try.underlying24 hp
    obtain ⟨q, rfl⟩ := slice_val Try.underlying25 hq
    obtain ⟨ns, hns, wns⟩ := open_row encN Try.underlying24 (by kernel_rfl) hK (fun _ _ _ h hx => open_n hK h hx) hp
    obtain ⟨ls, hls, wls⟩ := open_row encK Try.underlying25 (by kernel_rfl) hK (fun _ _ _ h hx => open_k hK h hx) hq
    exact ⟨⟨⟨n0, n1, n2, n3, n4, n5, n6, n7⟩, p, q⟩, rfl, ⟨⟨n0, n1, n2, n3, n4, n5, n6, n7⟩, ns.map (·.d), ls⟩, ⟨rfl, ⟨ns, hns, fun n hn => (wns n hn).1, rfl⟩, hls⟩,
      v8_i (i64_lit w0) (i64_lit w1) (i64_lit w2) (i64_lit w3) (i64_lit w4) (i64_lit w5) (i64_lit w6) (i64_lit w7), fun d hd => by obtain ⟨n, hn, rfl⟩ := List.mem_map.1 hd; exact (wns n hn).2, wls⟩
end
end Go.Proofs.Ytebpacmhdkgfeaa


/- Equal structs are not unlike. -/
namespace Go.Proofs.Ytebpacmhdkgfeaa
open Go.RowKit

def Atr.cells (a : Atr) : List Value := [.int .i64 a.at_.boot, .int .i64 a.at_.n, .int .i64 a.mode, .int .u64 a.time]
def Siz.cells (a : Siz) : List Value := [.int .i64 a.at_.boot, .int .i64 a.at_.n, .int .i64 a.n]
end Go.Proofs.Ytebpacmhdkgfeaa

