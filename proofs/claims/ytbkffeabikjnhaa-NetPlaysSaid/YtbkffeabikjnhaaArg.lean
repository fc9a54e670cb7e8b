/- The laws' argument: a list of things that befall a net. -/
import Derived.Test.YtbkffeabikjnhaaAwake
import Derived.Test.YtbkffeabikjnhaaLeaf
namespace Go.Proofs.Ytbkffeabikjnhaa
open Go.ChangeShapes Go.WideShapes Go.RowKit Go.Deep

def Dod.cells (d : Dod) : List Value := .int .i64 d.op :: .int .i64 d.k :: d.m.cells
def encD : Enc Dod := ⟨21, by decide, Dod.cells, fun _ => rfl, fun d u hu => by simp [Dod.cells, Msg.cells] at hu; rcases hu with rfl | rfl | rfl | rfl | rfl | rfl | rfl | rfl | rfl | rfl | rfl | rfl | rfl | rfl | rfl | rfl | rfl | rfl | rfl | rfl | rfl <;> rfl⟩
def dodLeaves : List Leaf := List.replicate 20 (.int .i64) ++ [.str]
theorem leavesDod : leaves Try.prog 6 34 = some dodLeaves := by kernel_rfl
theorem fits_dod {cs : List Value} (h : Fits dodLeaves cs) : ∃ d : Dod, cs = d.cells := by
  have hl := h.length
  match cs, hl with
  | [c0, c1, c2, c3, c4, c5, c6, c7, c8, c9, c10, c11, c12, c13, c14, c15, c16, c17, c18, c19, c20], _ =>
    obtain ⟨⟨n0, rfl, -⟩, ⟨n1, rfl, -⟩, ⟨n2, rfl, -⟩, ⟨n3, rfl, -⟩, ⟨n4, rfl, -⟩, ⟨n5, rfl, -⟩, ⟨n6, rfl, -⟩, ⟨n7, rfl, -⟩, ⟨n8, rfl, -⟩, ⟨n9, rfl, -⟩, ⟨n10, rfl, -⟩, ⟨n11, rfl, -⟩, ⟨n12, rfl, -⟩, ⟨n13, rfl, -⟩, ⟨n14, rfl, -⟩, ⟨n15, rfl, -⟩, ⟨n16, rfl, -⟩, ⟨n17, rfl, -⟩, ⟨n18, rfl, -⟩, ⟨n19, rfl, -⟩, ⟨s, rfl, -⟩, -⟩ := h
    exact ⟨⟨n0, n1, ⟨n2, n3, n4, n5, ⟨n6, n7⟩, ⟨n8, n9⟩, n10, n11, ⟨n12, n13, n14, n15, n16, n17, n18, n19⟩, s⟩⟩, rfl⟩
theorem cells_at {w : World} {base n : Nat} {a : Addr} {cs : List Value} (h : w.cells? base a n = some cs) : cs.length = n ∧ ∀ j, j < n → w.cell? (a.add j) = cs[j]? := by
  obtain ⟨_, h1, h2⟩ := World.cells?_some h
  exact ⟨h1, fun j hj => h2 j hj⟩
theorem open_dos {H : Type} {enc : TypeId × Value → H} {w : World} {base : Nat} {spare : Nat → Bool} {held : Bool} {fuel : Nat} {v : Value} {x : DataW H × List MemPlace} (h : DataW.trod enc Try.prog w base spare held fuel 22 [v] = some x) :
    ∃ ds : List Dod, encD.R w v ds := by
  have hC : Try.prog.cellsOf 34 = 21 := by kernel_rfl
  rcases open_slice Try.underlying22 h with ⟨h0, -⟩ | ⟨a, len, cap, m, n, D, Pl, hcs, hb, hl, hm, hmm, hx, hi⟩
  · injection h0 with h0 _
    subst h0
    exact ⟨[], Enc.R.none w⟩
  · injection hcs with hcs _
    subst hcs
    have hlm : len ≤ m := by rw [hmm]; split <;> omega
    have key : ∀ q, q ≤ len → ∃ ds : List Dod, ds.length = q ∧ ∀ i, (hi : i < ds.length) → ∀ j, j < 21 → w.cell? (a.add (i * 21 + j)) = (ds[i].cells)[j]? := by
      intro q
      induction q with
      | zero => intro _; exact ⟨[], rfl, fun i hi => by simp at hi⟩
      | succ q ih =>
        intro hq
        obtain ⟨ds, hds, hd⟩ := ih (by omega)
        obtain ⟨cs', hc, ht⟩ := hi q (by omega)
        rw [hC] at hc
        obtain ⟨d, rfl⟩ := fits_dod (leaves_fits 6 _ _ _ _ _ leavesDod ht)
        obtain ⟨_, hat⟩ := cells_at hc
        refine ⟨ds ++ [d], by simp [hds], fun i hi' j hj => ?_⟩
        by_cases h1 : i < ds.length
        · rw [List.getElem_append_left h1]; exact hd i h1 j hj
        · have h2 : i = q := by simp at hi'; omega
          subst h2
          rw [← Go.Deep.add_add, hat j hj]
          simp [hds]
    obtain ⟨ds, hds, hd⟩ := key len (Nat.le_refl _)
    refine ⟨ds, by rw [Enc.all_length], some a, cap, by rw [hds], by omega, by simp only [maxLen] at hm; omega, .inr ⟨a, rfl, fun k u hu => ?_⟩⟩
    have hk : k < ds.length * 21 := by have := (List.getElem?_eq_some_iff.1 hu).1; rw [Enc.all_length] at this; exact this
    have h1 : k / 21 < ds.length := by omega
    have h2 := hd (k / 21) h1 (k % 21) (by omega)
    have h3 := encD.all_get ds (k / 21) (k % 21) h1 (show k % 21 < 21 by omega)
    have e : k / 21 * 21 + k % 21 = k := by omega
    have e' : k / 21 * encD.sz + k % 21 = k := e
    rw [e] at h2
    rw [e'] at h3
    rw [h2, ← hu, h3]
    rfl
/-- The shape of what is read: element i's cells. -/
theorem R_at {w : World} {v : Value} {ds : List Dod} (h : encD.R w v ds) : ∃ ao c, v = .slice ao ds.length c ∧ ∀ i, (hi : i < ds.length) → ∃ g off, ao = some ⟨g, off, none⟩ ∧ w.rangeAt g (off + i * 21) ds[i].cells := by
  obtain ⟨ao, c, rfl, hc, hm, hi⟩ := h.open_
  refine ⟨ao, c, rfl, fun i hl => ?_⟩
  obtain ⟨⟨g, off, spot⟩, rfl, hcell⟩ := hi i hl
  obtain ⟨ad0, e0, h0⟩ := hi 0 (by omega)
  injection e0 with e0
  subst e0
  have h00 := h0 0 (by decide)
  have hsp : spot = none := by
    have h1 : w.cell? ((⟨g, off, spot⟩ : Addr).add (0 * encD.sz + 0)) = some (.int .i64 (ds[0]).op) := h00
    simpa [Addr.add] using World.cell?_spot h1
  subst hsp
  refine ⟨g, off, rfl, fun j u hj => ?_⟩
  have hj21 : j < 21 := (List.getElem?_eq_some_iff.1 hj).1
  have h1 := hcell j hj21
  have e : (⟨g, off, none⟩ : Addr).add (i * encD.sz + j) = ⟨g, off + i * 21 + j, none⟩ := by
    show (⟨g, off, none⟩ : Addr).add (i * 21 + j) = _
    unfold Addr.add; split <;> first | (simp; done) | (simp; omega)
  rw [e] at h1
  exact h1.trans hj
end Go.Proofs.Ytbkffeabikjnhaa
