/- Numbers as text, by a loop of rounds. -/
import Derived.Test.YtebpacmhdkgfeaaDoorTxt
namespace Go.Proofs.YtebpacmhdkgfeaaDoor
open Go.RowKit

def dch (u : Nat) : UInt8 := UInt8.ofNat (48 + u % 10)
/-- What stands in s after some rounds, u being what is left. -/
def DigInv (u0 u : Nat) (s : List UInt8) : Prop := if 0 < u ∨ s = [] then Lib.decDigits u0 = Lib.decDigits u ++ s ∨ (u = 0 ∧ s = [] ∧ u0 = 0) else Lib.decDigits u0 = s
theorem dig_zero : Lib.decDigits 0 = [dch 0] := by rw [Lib.decDigits_one (by omega)]; rfl
theorem DigInv.start (u0 : Nat) : DigInv u0 u0 [] := by
  unfold DigInv
  rw [if_pos (.inr rfl)]
  exact .inl (by simp)
theorem DigInv.put {u0 u : Nat} {s : List UInt8} (h : DigInv u0 u s) (hc : 0 < u ∨ s = []) : DigInv u0 (u / 10) (dch u :: s) := by
  unfold DigInv at *
  rw [if_pos hc] at h
  rcases h with h | ⟨rfl, rfl, rfl⟩
  · by_cases h10 : u < 10
    · rw [if_neg (by simp; omega), h, Lib.decDigits_one h10, dch, Nat.mod_eq_of_lt h10]
      rfl
    · rw [if_pos (.inl (by omega))]
      refine .inl ?_
      rw [h, Lib.decDigits, dif_neg h10, List.append_assoc]
      rfl
  · rw [if_neg (by simp)]
    exact dig_zero
theorem DigInv.skip {u0 u : Nat} {s : List UInt8} (h : DigInv u0 u s) (hc : ¬ (0 < u ∨ s = [])) : DigInv u0 (u / 10) s := by
  unfold DigInv at *
  have hs : s ≠ [] := fun e => hc (.inr e)
  rw [if_neg hc] at h
  rw [if_neg (fun h => h.elim (fun h1 => hc (.inl (by omega))) hs)]
  exact h
theorem DigInv.done {u0 : Nat} {s : List UInt8} (h : DigInv u0 0 s) (hs : s ≠ []) : Lib.decDigits u0 = s := by
  unfold DigInv at h
  rw [if_neg (by simp [hs])] at h
  exact h
theorem dch_val (u : Nat) : ((dch u).toNat : Int) = 48 + (u : Int) % 10 := by
  have h : (dch u).toNat = (48 + u % 10) % 256 := rfl
  rw [h]
  omega
theorem ev_b2s {P : Program} {ops : Array Oper} {rest : List Oper} {o : Oper} {a : Act} {Q : Exit → Act → World → Prop} {W : World} {src dst e : TypeId} {x : Operand} {v : Value} {l : List UInt8} [hs : SliceT P src e] (hgd : o.guard = none) (ho : o.op = .convert src dst x) (hx : a.eval x = v) (hR : encB.R W v l)
    (he : P.underlying e = some (.int .u8)) (hd : P.underlying dst = some .string) (h : wpList P ops Q rest (a.put o.dst (.string ⟨l.toArray⟩)) W) : wpList P ops Q (o :: rest) a W := by
  refine event hgd (v := .string ⟨l.toArray⟩) (w1 := W) ?_ h
  simp [execOp, ho, hx, conv_bytes hR src dst e hs.slice he hd]
theorem one_byte {w : World} {g : Nat} {t : TypeId} {c : UInt8} (h : Box w g [.int .u8 c.toNat].toArray t) : encB.R w (.slice (some ⟨g, 0, none⟩) 1 1) [c] := by
  refine ⟨by rw [Enc.all_length], some ⟨g, 0, none⟩, 1, rfl, Nat.le_refl _, by simp, .inr ⟨_, rfl, fun j u hj => ?_⟩⟩
  have ha : (⟨g, 0, none⟩ : Addr).add j = ⟨g, j, none⟩ := by unfold Addr.add; split <;> simp_all
  rw [ha, h.cell j]
  rw [Enc.all_one_elem] at hj
  have hj' : [Value.int .u8 c.toNat][j]? = some u := hj
  simpa using hj'
theorem ba_cons (c : UInt8) (l : List UInt8) : (⟨[c].toArray⟩ : ByteArray) ++ ⟨l.toArray⟩ = ⟨(c :: l).toArray⟩ := by rw [ByteArray.mk_append_mk]; rfl
/-- The rounds of digits: what is left of u, and what stands in s. -/
def DigAt (u k uk : Nat) (l : List UInt8) : Prop := DigInv u uk l ∧ uk = u / 10 ^ k ∧ l.length ≤ k ∧ (0 < k → l ≠ [])
theorem DigAt.start (u : Nat) : DigAt u 0 u [] := ⟨.start u, by simp, by simp, by simp⟩
theorem DigAt.put {u k uk : Nat} {l : List UInt8} (h : DigAt u k uk l) (hc : 0 < uk ∨ l = []) : DigAt u (k + 1) (uk / 10) (dch uk :: l) :=
  ⟨h.1.put hc, by rw [h.2.1, Nat.div_div_eq_div_mul, Nat.pow_succ], by have := h.2.2.1; simp; omega, by simp⟩
theorem DigAt.skip {u k uk : Nat} {l : List UInt8} (h : DigAt u k uk l) (hc : ¬ (0 < uk ∨ l = [])) : DigAt u (k + 1) (uk / 10) l :=
  ⟨h.1.skip hc, by rw [h.2.1, Nat.div_div_eq_div_mul, Nat.pow_succ], by have := h.2.2.1; omega, fun _ e => hc (.inr e)⟩
theorem DigAt.done {u uk : Nat} {l : List UInt8} (h : DigAt u 20 uk l) (hu : u < 18446744073709551616) : Lib.decDigits u = l := by
  obtain ⟨h1, h2, _, h4⟩ := h
  have : uk = 0 := by rw [h2]; exact Nat.div_eq_of_lt (by omega)
  subst this
  exact h1.done (h4 (by omega))
end Go.Proofs.YtebpacmhdkgfeaaDoor
