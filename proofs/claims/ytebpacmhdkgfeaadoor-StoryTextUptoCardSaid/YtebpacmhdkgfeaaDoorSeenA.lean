/- Strings put together: strings.Join off the shelf. -/
import Derived.Test.YtebpacmhdkgfeaaDoorTexA
namespace Go.Proofs.YtebpacmhdkgfeaaDoor
open Go.RowKit

/-- A row that is not there yet. -/
theorem Loc.rowNil {α : Type} {w0 w : World} {M : Nat → Prop} {l : List Item} (h : Loc w0 M w l) (E : Enc α) (base : Nat) (e : TypeId) : Loc w0 M w (row E base e (.slice none 0 0) [] :: l) :=
  h.callNew (Below.refl _ _) (row_at (Enc.O.none _ _ _)) fun k hk => by cases hk
theorem join_snoc (xs : List (List UInt8)) (y sep : List UInt8) : Lib.join (xs ++ [y]) sep = if xs = [] then y else Lib.join xs sep ++ sep ++ y := by
  cases xs with
  | nil => simp [Lib.join_one]
  | cons x r => rw [List.cons_append, Lib.join_cons, if_neg (by simp), Lib.join_cons]; simp [Lib.joinTail]
theorem join_c (v : Value) (xs : List ByteArray) (sep : ByteArray) (w : World) (base : Nat) (h : encS.O w base 9 v xs) (hlen : (Lib.join (xs.map (·.data.toList)) sep.data.toList).length ≤ 140737488355328) (hN : xs.length ≤ 140737488355328) :
    Calls Tryd.prog 48 #[v, .string sep] w fun e w' => e = .returned (.string ⟨(Lib.join (xs.map (·.data.toList)) sep.data.toList).toArray⟩) ∧ Below w.heap.size w w' := by
  unfold Enc.O at h
  rcases h.2 with ⟨rfl, h0⟩ | ⟨g, cap, cur, rfl, hb, hg, h1, h2, h3, h4⟩
  · obtain rfl : xs = [] := List.eq_nil_of_length_eq_zero h0
    exact (Tryd.strings_Join_none none 0 sep w).mono fun _ _ ⟨he, hw⟩ => ⟨he, by rw [hw]; exact Below.refl _ _⟩
  · refine Tryd.strings_Join g 0 cap xs sep w (fun j x hj => ?_) (h.lt g rfl).2 hN h1 hlen
    have hj' : j < xs.length := (List.getElem?_eq_some_iff.1 hj).1
    have hc := h.cells (g := g) rfl j (.string x) (by
      have := encS.all_get xs j 0 hj' (by decide)
      have e : xs[j] = x := (List.getElem?_eq_some_iff.1 hj).2
      rw [e] at this
      simpa [encS] using this)
    have ha : (⟨g, 0, none⟩ : Addr).add j = ⟨g, 0 + j, none⟩ := by unfold Addr.add; split <;> simp_all
    rw [ha] at hc
    exact hc
end Go.Proofs.YtebpacmhdkgfeaaDoor
