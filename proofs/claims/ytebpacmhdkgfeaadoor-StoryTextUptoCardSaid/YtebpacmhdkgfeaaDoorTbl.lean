/- What the laws' listed tables give: Itoa's. The bulk of what is read. -/
import Derived.Test.YtebpacmhdkgfeaaDoorTexA
import Derived.Test.YtebpacmhdkgfeaaDoorLeg
import Derived.Test.YtebpacmhdkgfeaaDoorRows
import Derived.MakeChecks
import Derived.LaidMore
import Derived.Lay
import Derived.Lib.LaidTab
import Derived.Stop.Joined
namespace Go.Proofs.YtebpacmhdkgfeaaDoor
open Go.ChangeShapes Go.WideShapes Go.RowKit Go.Deep

theorem bulk_part {H : Type} {d : DataW H} {l : List (DataW H)} (h : d ∈ l) : Rows.uptoBulk d ≤ Rows.uptoBulkAll l := by
  induction l with
  | nil => cases h
  | cons x r ih =>
    simp only [Rows.uptoBulkAll]
    rcases List.mem_cons.1 h with rfl | h
    · omega
    · have := ih h; omega
/-- What is of small bulk: its texts are no longer. -/
theorem keep_bulk {H : Type} (B : Nat) : Keep (H := H) (fun d => Rows.uptoBulk d ≤ B) B := by
  refine ⟨fun l h d hd => ?_, fun l r h d hd => ?_, fun b _ h => ?_⟩
  · have := bulk_part hd; simp only [Rows.uptoBulk] at h; omega
  · have := bulk_part hd; simp only [Rows.uptoBulk] at h; omega
  · simp only [Rows.uptoBulk] at h; omega
/-- The rows' list of laid tables. -/
abbrev laidL : List (String × DataW Unit) := [("math/bits.deBruijn32tab", Rows.laid_math_bits_deBruijn32tab), ("math/bits.deBruijn64tab", Rows.laid_math_bits_deBruijn64tab), ("internal/strconv.uint64pow10", Rows.laid_internal_strconv_uint64pow10)]
theorem tab_data : (Rows.laid_internal_strconv_uint64pow10 : DataW Unit) = Lib.tabData .u64 Lib.pow10Tab := by
  unfold Rows.laid_internal_strconv_uint64pow10 Lib.tabData Lib.pow10Tab
  rfl
theorem tb_of_laid {W : World} (h : laidMetH Tryd.prog laidL W) : Tb W := by
  rw [MakeChecks.laidMetH_plain _ _ _ (by kernel_rfl)] at h
  obtain ⟨ps, ⟨_, _, _, _, _, _, _, _, _, _, ⟨_, _, _, _, _, _, _, _, _, _, ⟨g, t, cs, fuel, p, q, hg, hty, hvar, hd, _, _⟩, _⟩, _⟩, _⟩ := h
  obtain rfl := Option.some.inj ((show Tryd.prog.globalNamed "internal/strconv.uint64pow10" = some 0 by kernel_rfl).symm.trans hg)
  obtain rfl := Option.some.inj ((show (Tryd.prog.globals[0]?).map (·.type) = some 117 by kernel_rfl).symm.trans hty)
  rw [tab_data] at hd
  unfold Tb Lib.TabIs
  rw [hvar, ← Lib.cells_of_tab Tryd.underlying117 Tryd.underlying54 (by kernel_rfl) (by kernel_rfl) hd]
end Go.Proofs.YtebpacmhdkgfeaaDoor
