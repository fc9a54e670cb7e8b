/- slices.Equal of texts, off the shelf, of whatever reads. -/
import Derived.Test.YtebpacmhdkgfeaaDoorSeenA
namespace Go.Proofs.YtebpacmhdkgfeaaDoor
open Go.RowKit

theorem drewN_below (w : World) (q : Nat) : Below w.heap.size w (w.drewN q) := ⟨rfl, rfl, rfl, Nat.le_refl _, fun _ _ => rfl⟩
theorem eq_str (v u : Value) (xs ys : List ByteArray) (w : World) (hx : encS.R w v xs) (hy : encS.R w u ys) :
    Calls Tryd.prog 7 #[v, u] w fun e w' => e = .returned (.bool (decide (xs = ys))) ∧ Below w.heap.size w w' := by
  have mx := R_max hx
  have my := R_max hy
  obtain ⟨a1, c1, rfl, h1⟩ := R_elem hx
  obtain ⟨a2, c2, rfl, h2⟩ := R_elem hy
  by_cases hl : xs.length = ys.length
  · cases xs with
    | nil =>
      obtain rfl : ys = [] := List.eq_nil_of_length_eq_zero hl.symm
      exact (Tryd.slices_Equal_string_empty a1 a2 c1 0 c2 w (by omega)).mono fun e w' ⟨he, hw⟩ => ⟨by rw [he]; rfl, by rw [hw]; exact Below.refl _ _⟩
    | cons x xs =>
      obtain ⟨g1, o1, rfl, -⟩ := h1 0 (by simp)
      obtain ⟨g2, o2, rfl, -⟩ := h2 0 (by rw [← hl]; simp)
      have cell : ∀ {g o : Nat} {zs : List ByteArray}, (∀ i (hi : i < zs.length), ∃ g' off, some (⟨g, o, none⟩ : Addr) = some ⟨g', off, none⟩ ∧ w.rangeAt g' (off + i * encS.sz) (encS.cells zs[i])) → ∀ j, j < zs.length → w.cell? ⟨g, o + j, none⟩ = some (.string (zs.getD j ByteArray.empty)) := fun {g o zs} h j hj => by
        obtain ⟨g', off, e, hr⟩ := h j hj
        injection e with e
        injection e with e1 e2
        subst e1 e2
        have := hr 0 (.string zs[j]) rfl
        rw [List.getD_eq_getElem?_getD, List.getElem?_eq_getElem hj]
        simpa [encS] using this
      refine (Tryd.slices_Equal_string g1 o1 (x :: xs).length c1 g2 o2 ys.length c2 (x :: xs) ys w (Nat.le_refl _) (Nat.le_refl _) mx my (cell h1) (cell h2)).mono fun e w' ⟨he, q, hw⟩ => ⟨?_, by rw [hw]; exact drewN_below w q⟩
      rw [he, List.take_length, List.take_length]
  · exact (Tryd.slices_Equal_string_lens a1 a2 xs.length c1 ys.length c2 w hl).mono fun e w' ⟨he, hw⟩ => ⟨by rw [he]; congr 2; exact (decide_eq_false fun h => hl (by rw [h])).symm, by rw [hw]; exact Below.refl _ _⟩
end Go.Proofs.YtebpacmhdkgfeaaDoor
