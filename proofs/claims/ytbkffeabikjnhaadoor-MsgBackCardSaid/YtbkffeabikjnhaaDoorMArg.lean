/- The Msg laws' argument: a message. What the laws' listed tables give: Itoa's. -/
import Derived.Test.YtbkffeabikjnhaaDoorLeaf
import Derived.Test.YtbkffeabikjnhaaDoorTex2
import Derived.Test.YtbkffeabikjnhaaDoorRows
import Derived.MakeChecks
import Derived.LaidMore
import Derived.Lay
import Derived.Lib.LaidTab
import Derived.Stop.Joined
namespace Go.Proofs.YtbkffeabikjnhaaDoor
open Go.ChangeShapes Go.WideShapes Go.RowKit Go.Deep

def msgLeaves : List Leaf := List.replicate 18 (.int .i64) ++ [.str]
theorem leavesMsg : leaves Tryd.prog 6 41 = some msgLeaves := by kernel_rfl
theorem i64_wf {n : Int} (h : (Lit.int .i64 n).wf = true) : I64 n := by
  have h1 : IntKind.i64.min ≤ n ∧ n ≤ IntKind.i64.max := by simpa [Lit.wf] using h
  exact h1
theorem fits_msg {cs : List Value} (h : Fits msgLeaves cs) : ∃ m : Msg, cs = m.cells ∧ (m.data.size ≤ 4096 → m.wf) ∧ m.data.size ≤ maxLen := by
  have hl := h.length
  match cs, hl with
  | [c0, c1, c2, c3, c4, c5, c6, c7, c8, c9, c10, c11, c12, c13, c14, c15, c16, c17, c18], _ =>
    obtain ⟨⟨n0, rfl, w0⟩, ⟨n1, rfl, w1⟩, ⟨n2, rfl, w2⟩, ⟨n3, rfl, w3⟩, ⟨n4, rfl, w4⟩, ⟨n5, rfl, w5⟩, ⟨n6, rfl, w6⟩, ⟨n7, rfl, w7⟩, ⟨n8, rfl, w8⟩, ⟨n9, rfl, w9⟩, ⟨n10, rfl, w10⟩, ⟨n11, rfl, w11⟩, ⟨n12, rfl, w12⟩, ⟨n13, rfl, w13⟩, ⟨n14, rfl, w14⟩, ⟨n15, rfl, w15⟩, ⟨n16, rfl, w16⟩, ⟨n17, rfl, w17⟩, ⟨s, rfl, ws⟩, -⟩ := h
    refine ⟨⟨n0, n1, n2, n3, ⟨n4, n5⟩, ⟨n6, n7⟩, n8, n9, ⟨n10, n11, n12, n13, n14, n15, n16, n17⟩, s⟩, rfl, fun hd => ⟨i64_wf w0, i64_wf w1, i64_wf w2, i64_wf w3, i64_wf w4, i64_wf w5, i64_wf w6, i64_wf w7, i64_wf w8, i64_wf w9, fun k hk => ?_, hd⟩, ws⟩
    have e : k = 0 ∨ k = 1 ∨ k = 2 ∨ k = 3 ∨ k = 4 ∨ k = 5 ∨ k = 6 ∨ k = 7 := by omega
    rcases e with rfl | rfl | rfl | rfl | rfl | rfl | rfl | rfl
    · exact i64_wf w10
    · exact i64_wf w11
    · exact i64_wf w12
    · exact i64_wf w13
    · exact i64_wf w14
    · exact i64_wf w15
    · exact i64_wf w16
    · exact i64_wf w17
theorem open_msg {H : Type} {enc : TypeId × Value → H} {w : World} {base : Nat} {spare : Nat → Bool} {held : Bool} {fuel : Nat} {cs : Array Value} {x : DataW H × List MemPlace} (h : DataW.trod enc Tryd.prog w base spare held fuel 41 cs.toList = some x) :
    ∃ m : Msg, Value.agg cs = m.val ∧ (m.data.size ≤ 4096 → m.wf) ∧ m.data.size ≤ maxLen := by
  obtain ⟨m, hm, hw⟩ := fits_msg (leaves_fits 6 _ _ _ _ _ leavesMsg h)
  refine ⟨m, ?_, hw⟩
  have e : cs = m.cells.toArray := by rw [← hm]
  rw [e]
  rfl
/-- The rows' list of laid tables. -/
abbrev laidL : List (String × DataW Unit) := [("math/bits.deBruijn32tab", Rows.laid_math_bits_deBruijn32tab), ("math/bits.deBruijn64tab", Rows.laid_math_bits_deBruijn64tab), ("internal/strconv.uint64pow10", Rows.laid_internal_strconv_uint64pow10)]
theorem tab_data : (Rows.laid_internal_strconv_uint64pow10 : DataW Unit) = Lib.tabData .u64 Lib.pow10Tab := by
  unfold Rows.laid_internal_strconv_uint64pow10 Lib.tabData Lib.pow10Tab
  rfl
theorem tb_of_laid {W : World} (h : laidMetH Tryd.prog laidL W) : Tb W := by
  rw [MakeChecks.laidMetH_plain _ _ _ (by kernel_rfl)] at h
  obtain ⟨ps, ⟨_, _, _, _, _, _, _, _, _, _, ⟨_, _, _, _, _, _, _, _, _, _, ⟨g, t, cs, fuel, p, q, hg, hty, hvar, hd, _, _⟩, _⟩, _⟩, _⟩ := h
  obtain rfl := Option.some.inj ((show Tryd.prog.globalNamed "internal/strconv.uint64pow10" = some 0 by kernel_rfl).symm.trans hg)
  obtain rfl := Option.some.inj ((show (Tryd.prog.globals[0]?).map (·.type) = some 169 by kernel_rfl).symm.trans hty)
  rw [tab_data] at hd
  unfold Tb Lib.TabIs
  rw [hvar, ← Lib.cells_of_tab Tryd.underlying169 Tryd.underlying72 (by kernel_rfl) (by kernel_rfl) hd]
end Go.Proofs.YtbkffeabikjnhaaDoor
