/- Numbers as text: strconv.Itoa off the shelf; the table that it reads; sums of strings. -/
import Derived.Test.YtebpacmhdkgfeaaDoorLaid
import Derived.Test.YtebpacmhdkgfeaaDoorTab
import Derived.Test.YtebpacmhdkgfeaaDoorLoc4
namespace Go.Proofs.YtebpacmhdkgfeaaDoor
open Go.RowKit

def itoaB (n : Int) : ByteArray := ⟨(Lib.itoa n).toArray⟩
def Tb (w : World) : Prop := Lib.TabIs Tryd.prog w "internal/strconv.uint64pow10" .u64 Lib.pow10Tab
theorem Tb.below {w w1 : World} (h : Tb w) (hb : Below w.heap.size w w1) : Tb w1 := by
  unfold Tb Lib.TabIs World.var? at *
  cases hg : (Tryd.prog.globalNamed "internal/strconv.uint64pow10") with
  | none => rw [hg] at h; simp at h
  | some g =>
    rw [hg] at h
    simp only [Option.bind_some] at h ⊢
    have hlt : g < w.heap.size := by
      rcases Nat.lt_or_ge g w.heap.size with h1 | h1
      · exact h1
      · rw [Array.getElem?_eq_none h1] at h; simp at h
    rw [hb.block g hlt]
    exact h
theorem grow_below (w : World) (k : Nat) (os : Array Obj) : Below w.heap.size w (Sort.grow (w.drewN k) os) :=
  ⟨rfl, rfl, rfl, by simp [Sort.grow], fun j hj => by simp [Sort.grow, Array.getElem?_append_left hj]⟩
theorem itoaB_size (n : Int) (h0 : -9223372036854775808 ≤ n) (h1 : n ≤ 9223372036854775807) : (itoaB n).size ≤ 30 := by
  have key : ∀ u : Nat, u < 18446744073709551616 → (Lib.decDigits u).length ≤ 20 := by
    intro u hu
    rw [Lib.decDigits_length]
    by_cases h0 : u = 0
    · subst h0; rw [Lib.nDigits_small (by omega)]; omega
    · have h := Lib.numDigits_eq u (by omega) hu
      have h1 := h.1
      have h2 := h.2
      split at h1 <;> omega
  show (Lib.itoa n).toArray.size ≤ 30
  rw [List.size_toArray]
  unfold Lib.itoa
  split
  · have := key n.natAbs (by omega); simp; omega
  · have := key n.toNat (by omega); omega
theorem itoa_c (n : Int) (h0 : -9223372036854775808 ≤ n) (h1 : n ≤ 9223372036854775807) (w : World) (ht : Tb w) :
    Calls Tryd.prog 24 #[.int .i64 n] w fun e w' => e = .returned (.string (itoaB n)) ∧ Below w.heap.size w w' :=
  (Tryd.strconv_Itoa n h0 h1 w ht).mono fun _ _ ⟨he, k, os, hw⟩ => ⟨he, by rw [hw]; exact grow_below w k os⟩
section
variable {P : Program} {ops : Array Oper} {rest : List Oper} {o : Oper} {a : Act} {Q : Exit → Act → World → Prop} {W : World}
theorem gCat {t r : TypeId} {x y : Operand} (_hg : o.guard = none) (_ho : o.op = .binOp .add t x y r) (h : wpList P ops Q (o :: rest) a W) : wpList P ops Q (o :: rest) a W := h
theorem run_cat {t r : TypeId} {x y : Operand} {s u : ByteArray} (ho : o.op = .binOp .add t x y r) (hx : a.eval x = .string s) (hy : a.eval y = .string u) (hs : s.size + u.size ≤ 9223372036854775807) : (execOp a.eval o).run P W = .ok (.value (.string (s ++ u))) W := by
  have h : ¬ (s.size + u.size > 9223372036854775807) := by omega
  simp [execOp, ho, hx, hy, eqGuard, binOp, Op.stringOp]
  have h' : ¬ ((9223372036854775807 : Int) < (s.size : Int) + (u.size : Int)) := by omega
  simp [h']
  omega
theorem ev_cat {t r : TypeId} {x y : Operand} {s u : ByteArray} (hgd : o.guard = none) (ho : o.op = .binOp .add t x y r) (hx : a.eval x = .string s) (hy : a.eval y = .string u) (hs : s.size + u.size ≤ 9223372036854775807)
    (h : wpList P ops Q rest (a.put o.dst (.string (s ++ u))) W) : wpList P ops Q (o :: rest) a W := event hgd (run_cat ho hx hy hs) h
theorem quiet_cat {K : Act → Prop} {C : World → Prop} {t r : TypeId} {x y : Operand} {s u : ByteArray} (ho : o.op = .binOp .add t x y r) (hx : a.eval x = .string s) (hy : a.eval y = .string u) (hs : s.size + u.size ≤ 9223372036854775807)
    (h : K (a.put o.dst (.string (s ++ u)))) : o.quiet P a C K := by
  refine ⟨_, fun w hw => ?_, h⟩
  unfold Oper.quietAt
  rw [run_cat ho hx hy hs]
  exact ⟨rfl, rfl⟩
end
end Go.Proofs.YtebpacmhdkgfeaaDoor
