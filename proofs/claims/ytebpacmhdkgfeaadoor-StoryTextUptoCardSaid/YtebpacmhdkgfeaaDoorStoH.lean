/- Chapter 29: helps for an inode's line. -/
import Derived.Test.YtebpacmhdkgfeaaDoorSto9
import Derived.Test.YtebpacmhdkgfeaaDoorSto8
import Derived.Test.YtebpacmhdkgfeaaDoorTwo
import Derived.Test.YtebpacmhdkgfeaaDoorConcatS
namespace Go.Proofs.YtebpacmhdkgfeaaDoor
open Go.RowKit

theorem ref23_d (n : Int) (h : I64 n) (w : World) : Calls Tryd.prog 28 #[.int .i64 n] w fun e w' => e = .returned (.string (itoaB n)) ∧ Below w.heap.size w w' := ref23_digits n w h.1 h.2
theorem word_pc (p : Pce) (h : I64 p.idx) : p.word.size ≤ 1000000000 := by
  have := h.size
  unfold Pce.word
  simp only [ByteArray.size_append, ByteArray.size_mk']
  simp
  omega
theorem word_xt (x : Xat) (h : x.name.size ≤ 900000000) : x.word.size ≤ 1000000000 := by
  unfold Xat.word
  split <;> (simp only [ByteArray.size_append, ByteArray.size_mk']; simp; omega)
theorem three_ {α : Type} {E : Enc α} {w : World} {s0 s1 s2 : Sl} {x0 x1 x2 : List α} (h0 : E.R w s0.val x0) (h1 : E.R w s1.val x1) (h2 : E.R w s2.val x2) :
    ∀ i (_ : i < [s0, s1, s2].length) (_ : i < [x0, x1, x2].length), E.R w [s0, s1, s2][i].val [x0, x1, x2][i] := by
  intro i hi hi2
  match i, hi with
  | 0, _ => exact h0
  | 1, _ => exact h1
  | 2, _ => exact h2
end Go.Proofs.YtebpacmhdkgfeaaDoor
