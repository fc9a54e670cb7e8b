/- Marks as words. -/
import Derived.Test.YtebpacmhdkgfeaaDoorDigA
import Derived.Test.YtebpacmhdkgfeaaDoorMk
namespace Go.Proofs.YtebpacmhdkgfeaaDoor
open Go.RowKit

theorem I64.size {n : Int} (h : I64 n) : (itoaB n).size ≤ 30 := itoaB_size n h.1 h.2
theorem itoa_ext {W : World} {e : Ext W} (ht : Tb W) (n : Int) (h : I64 n) : Calls Tryd.prog 24 #[.int .i64 n] e.w fun en w'' => en = .returned (.string (itoaB n)) ∧ ∃ m : Ext W, w'' = m.w :=
  calls_ext (itoa_c n h.1 h.2 _ (ht.below e.ok))
def Mk.text (m : Mk) : ByteArray := itoaB m.boot ++ ⟨#[46]⟩ ++ itoaB m.n
theorem Mk.text_size (m : Mk) (hb : I64 m.boot) (hn : I64 m.n) : m.text.size ≤ 61 := by
  have h1 := hb.size
  have h2 := hn.size
  unfold Mk.text
  simp only [ByteArray.size_append, ByteArray.size_mk']
  simp
  omega
end Go.Proofs.YtebpacmhdkgfeaaDoor
