/- What a sum tells: of sealed bytes with one byte changed no bytes are opened. Plain. -/
import Derived.Test.YtbkffeabikjnhaaDoorGet
namespace Go.Proofs.YtbkffeabikjnhaaDoor
open Go.RowKit

theorem crcBit_low (c : BitVec 64) : crcBit c = if c.getLsbD 0 then (c >>> 1) ^^^ crcPoly else c >>> 1 := by
  have h1 : c &&& 1#64 = if c.getLsbD 0 then 1#64 else 0#64 := by
    apply BitVec.eq_of_getLsbD_eq
    intro i hi
    rw [BitVec.getLsbD_and]
    cases h : c.getLsbD 0
    · by_cases h0 : i = 0
      · subst h0; simpa using h
      · have : (1#64).getLsbD i = false := by rw [BitVec.getLsbD_one]; simp [h0]
        simp [this]
    · by_cases h0 : i = 0
      · subst h0; simpa using h
      · have : (1#64).getLsbD i = false := by rw [BitVec.getLsbD_one]; simp [h0]
        simp [this]
  unfold crcBit
  rw [h1]
  split
  · rw [show -(1#64) = BitVec.allOnes 64 from by decide, BitVec.and_allOnes]
  · rw [show -(0#64) = 0#64 from by decide, BitVec.and_zero, BitVec.xor_zero]
theorem crcBit_top (c : BitVec 64) : (crcBit c).getLsbD 63 = c.getLsbD 0 := by
  have hs : (c >>> 1).getLsbD 63 = false := by
    rw [BitVec.getLsbD_ushiftRight]
    exact BitVec.getLsbD_of_ge _ _ (by omega)
  have hp : crcPoly.getLsbD 63 = true := by decide
  rw [crcBit_low]
  cases h : c.getLsbD 0
  · rw [if_neg (by simp), hs]
  · rw [if_pos rfl, BitVec.getLsbD_xor, hs, hp]; rfl
theorem shr_inj {c d : BitVec 64} (h0 : c.getLsbD 0 = d.getLsbD 0) (h : c >>> 1 = d >>> 1) : c = d := by
  apply BitVec.eq_of_getLsbD_eq
  intro i hi
  rcases i with _ | i
  · exact h0
  · have := congrArg (fun x : BitVec 64 => x.getLsbD i) h
    simp only [BitVec.getLsbD_ushiftRight] at this
    rw [Nat.add_comm i 1]
    exact this
theorem xor_inj {a b c : BitVec 64} (h : a ^^^ c = b ^^^ c) : a = b := by
  have := congrArg (· ^^^ c) h
  simpa [BitVec.xor_assoc] using this
theorem crcBit_inj {c d : BitVec 64} (h : crcBit c = crcBit d) : c = d := by
  have h0 : c.getLsbD 0 = d.getLsbD 0 := by rw [← crcBit_top c, ← crcBit_top d, h]
  rw [crcBit_low c, crcBit_low d, h0] at h
  refine shr_inj h0 ?_
  split at h
  · exact xor_inj h
  · exact h
theorem crcBits_inj : ∀ (k : Nat) {c d : BitVec 64}, crcBits k c = crcBits k d → c = d
  | 0, _, _, h => h
  | k + 1, _, _, h => crcBits_inj k (crcBit_inj h)
theorem crcByte_injC {c d : BitVec 64} {b : UInt8} (h : crcByte c b = crcByte d b) : c = d := xor_inj (crcBits_inj 8 h)
theorem crcByte_injB {c : BitVec 64} {a b : UInt8} (h : crcByte c a = crcByte c b) : a = b := by
  have h1 := crcBits_inj 8 h
  rw [BitVec.xor_comm c, BitVec.xor_comm c] at h1
  have h2 := congrArg BitVec.toNat (xor_inj h1)
  have ha := a.toNat_lt
  have hb := b.toNat_lt
  simp only [BitVec.toNat_ofNat] at h2
  apply UInt8.toNat_inj.1
  omega
theorem crcFold_inj : ∀ (l : List UInt8) {c d : BitVec 64}, crcFold c l = crcFold d l → c = d
  | [], _, _, h => h
  | b :: l, c, d, h => crcByte_injC (crcFold_inj l (c := crcByte c b) (d := crcByte d b) h)
theorem crcMore_ne (c : BitVec 64) (p q : List UInt8) {a b : UInt8} (h : a ≠ b) : crcMore c (p ++ a :: q) ≠ crcMore c (p ++ b :: q) := by
  intro e
  have e1 : crcFold (~~~c) (p ++ a :: q) = crcFold (~~~c) (p ++ b :: q) := by
    have := congrArg (fun x => ~~~ x) e
    simpa [crcMore] using this
  rw [crcFold, crcFold, List.foldl_append, List.foldl_append] at e1
  exact h (crcByte_injB (crcFold_inj q e1))
theorem sumBytes_inj {x y : BitVec 64} (h : sumBytes x = sumBytes y) : x = y := by
  have hx := x.isLt
  have hy := y.isLt
  apply BitVec.eq_of_toNat_eq
  have key : ∀ i, i < 8 → ((x.toNat : Int) / 2 ^ (8 * i)) % 256 = ((y.toNat : Int) / 2 ^ (8 * i)) % 256 := fun i hi => by
    have h1 : (sumBytes x)[i]? = (sumBytes y)[i]? := by rw [h]
    simp only [sumBytes, List.getElem?_map, List.getElem?_range hi, Option.map_some, Option.some.injEq] at h1
    rw [← u8_val, ← u8_val, h1]
  have k0 := key 0 (by omega); have k1 := key 1 (by omega); have k2 := key 2 (by omega); have k3 := key 3 (by omega)
  have k4 := key 4 (by omega); have k5 := key 5 (by omega); have k6 := key 6 (by omega); have k7 := key 7 (by omega)
  simp only [Nat.reduceMul, Int.reducePow, Int.pow_zero, Nat.mul_zero] at k0 k1 k2 k3 k4 k5 k6 k7
  omega
/-- The bytes with one of them turned. -/
def turned (l : List UInt8) (i : Nat) (by_ : UInt8) : List UInt8 := l.set i (l.getD i 0 ^^^ by_)
theorem xor_ne (a b : UInt8) (h : b ≠ 0) : a ^^^ b ≠ a := by
  intro e
  apply h
  have := congrArg (a ^^^ ·) e
  simpa [← UInt8.xor_assoc] using this
theorem sealed_told (l : List UInt8) (i : Nat) (b : UInt8) (hb : b ≠ 0) (hi : i < (sealed l).length) :
    sealed ((turned (sealed l) i b).take l.length) ≠ turned (sealed l) i b := by
  have hl : (sealed l).length = l.length + 8 := by simp [sealed, sumBytes_length]
  by_cases h : i < l.length
  · have e1 : turned (sealed l) i b = l.set i (l[i] ^^^ b) ++ sumBytes (crcMore 0#64 l) := by
      unfold turned
      rw [sealed, List.getD_eq_getElem?_getD, List.getElem?_append_left h, List.getElem?_eq_getElem h, Option.getD_some, List.set_append_left _ _ h]
    rw [e1, List.take_left' (by simp)]
    intro e
    unfold sealed at e
    have e2 := sumBytes_inj (List.append_cancel_left e)
    have hs : l = l.take i ++ l[i] :: l.drop (i + 1) := by rw [← List.drop_eq_getElem_cons h, List.take_append_drop]
    have hs2 : l.set i (l[i] ^^^ b) = l.take i ++ (l[i] ^^^ b) :: l.drop (i + 1) := List.set_eq_take_append_cons_drop .. |>.trans (by rw [if_pos h])
    rw [hs2] at e2
    conv at e2 => rhs; rw [hs]
    exact crcMore_ne 0#64 _ _ (xor_ne _ _ hb) e2
  · have e1 : (turned (sealed l) i b).take l.length = l := by
      unfold turned sealed
      rw [List.set_append_right _ _ (by omega)]
      simp
    rw [e1]
    intro e
    have h2 := congrArg (fun x : List UInt8 => x.getD i 0) e
    simp only [turned, List.getD_eq_getElem?_getD, List.getElem?_set_self hi, Option.getD_some] at h2
    exact xor_ne _ _ hb h2.symm
theorem openOk_told (l : List UInt8) (i : Nat) (b : UInt8) (hb : b ≠ 0) (hi : i < (sealed l).length) : openOk ⟨(turned (sealed l) i b).toArray⟩ = false := by
  have hl : (sealed l).length = l.length + 8 := by simp [sealed, sumBytes_length]
  have hz : (⟨(turned (sealed l) i b).toArray⟩ : ByteArray).size = l.length + 8 := by
    show (turned (sealed l) i b).toArray.size = _
    simp [turned, hl]
  have hc : (openCut ⟨(turned (sealed l) i b).toArray⟩).data.toList = (turned (sealed l) i b).take l.length := by
    unfold openCut
    rw [hz, ByteArray.data_extract]
    simp
  have := sealed_told l i b hb hi
  unfold openOk
  rw [hc]
  simp [this]
end Go.Proofs.YtbkffeabikjnhaaDoor
