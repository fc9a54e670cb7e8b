/- Sums: contracts. -/
import Derived.Test.YtbkffeabikjnhaaDoorProg
import Derived.Test.YtbkffeabikjnhaaDoorBase
namespace Go.Proofs.YtbkffeabikjnhaaDoor
open Go.RowKit

def crcPoly : BitVec 64 := 14514072000185962306#64
def crcBit (c : BitVec 64) : BitVec 64 := (c >>> 1) ^^^ (crcPoly &&& (- (c &&& 1#64)))
def crcBits : Nat → BitVec 64 → BitVec 64
  | 0, c => c
  | k + 1, c => crcBit (crcBits k c)
def crcByte (c : BitVec 64) (b : UInt8) : BitVec 64 := crcBits 8 (c ^^^ BitVec.ofNat 64 b.toNat)
def crcFold (c : BitVec 64) (l : List UInt8) : BitVec 64 := l.foldl crcByte c
def crcMore (c : BitVec 64) (l : List UInt8) : BitVec 64 := ~~~ (crcFold (~~~ c) l)

theorem bv_lt (a : BitVec 64) : a.toNat < 18446744073709551616 := a.isLt
theorem bv_xor (a b : BitVec 64) : bits .xor .u64 (a.toNat : Int) (b.toNat : Int) = ((a ^^^ b).toNat : Int) := by
  rw [u64_xor_nat _ _ (bv_lt a) (bv_lt b), BitVec.toNat_xor]
theorem bv_and (a b : BitVec 64) : bits .and .u64 (a.toNat : Int) (b.toNat : Int) = ((a &&& b).toNat : Int) := by
  rw [u64_and_nat _ _ (bv_lt a) (bv_lt b), BitVec.toNat_and]
theorem bv_shr1 (a : BitVec 64) : (a.toNat : Int) / (2 : Int) = ((a >>> 1).toNat : Int) := by
  rw [BitVec.toNat_ushiftRight, Nat.shiftRight_eq_div_pow]; omega
theorem bv_neg (a : BitVec 64) : IntKind.u64.wrap (-(a.toNat : Int)) = ((-a).toNat : Int) := by
  have := bv_lt a
  rw [IntKind.wrap_u64, BitVec.toNat_neg]
  omega
theorem bv_one : (1 : Int) = ((1#64).toNat : Int) := rfl
theorem bv_poly : (14514072000185962306 : Int) = (crcPoly.toNat : Int) := rfl
theorem bv_max : IntKind.u64.max = ((BitVec.allOnes 64).toNat : Int) := by decide +kernel
theorem bv_byte (b : UInt8) : IntKind.u64.wrap (b.toNat : Int) = ((BitVec.ofNat 64 b.toNat).toNat : Int) := by
  have := b.toNat_lt
  rw [IntKind.wrap_u64, BitVec.toNat_ofNat]
  omega
theorem crc_not (c : BitVec 64) : bits .xor .u64 IntKind.u64.max (c.toNat : Int) = ((~~~ c).toNat : Int) := by
  rw [bv_max, bv_xor, BitVec.allOnes_xor]
theorem crc_bit (x : BitVec 64) : bits .xor .u64 ((x.toNat : Int) / 2) (bits .and .u64 14514072000185962306 (IntKind.u64.wrap (-bits .and .u64 (x.toNat : Int) 1))) = ((crcBit x).toNat : Int) := by
  rw [bv_shr1, bv_one, bv_and, bv_neg, bv_poly, bv_and, bv_xor]; rfl
theorem crc_in (x : BitVec 64) (b : UInt8) : bits .xor .u64 (x.toNat : Int) (IntKind.u64.wrap (b.toNat : Int)) = ((x ^^^ BitVec.ofNat 64 b.toNat).toNat : Int) := by
  rw [bv_byte, bv_xor]
theorem crcFold_snoc (c : BitVec 64) (l : List UInt8) (b : UInt8) : crcFold c (l ++ [b]) = crcByte (crcFold c l) b := by simp [crcFold]
theorem take_snoc (s : ByteArray) (k : Nat) (h : k < s.size) : s.data.toList.take (k + 1) = s.data.toList.take k ++ [s[k]] := by
  rw [List.take_succ_eq_append_getElem (by simpa using h)]; rfl

theorem crc_more (c : BitVec 64) (s : ByteArray) (w : World) (hs : s.size ≤ 100000000000) :
    Calls Tryd.prog 124 #[.int .u64 c.toNat, .string s] w fun e w' => e = .returned (.int .u64 (crcMore c s.data.toList).toNat) ∧ w = w' := by
  have h1 := Lib.hid (crc_not c)
  go_enter Tryd.func124, Tryd.ntmps124
  go_wp2
  go_loop [5, 6, 7, 12, 21] (fun c5 i6 l7 i12 i21 => ∃ k : Nat, k ≤ s.size ∧ c5 = .int .u64 (crcFold (~~~ c) (s.data.toList.take k)).toNat ∧ i12 = .int .i64 k) (fun _ _ _ i _ => s.size - (intOf i).toNat)
  case atStart => exact ⟨0, by omega, by rw [h1.out]; rfl, rfl⟩
  case round =>
    obtain ⟨k, hk, rfl, rfl⟩ := hrel
    generalize hx : crcFold (~~~ c) (s.data.toList.take k) = x
    have HX := Lib.hid hx
    clear hx
    by_cases hlt : k < s.size
    · go_wp2
      have HI := Lib.hid (crc_in x s[k])
      go_loop [5, 7, 21] (fun c5 l7 i21 => ∃ (j : Nat), j ≤ 8 ∧ c5 = .int .u64 (crcBits j (x ^^^ BitVec.ofNat 64 s[k].toNat)).toNat ∧ i21 = .int .i64 j) (fun _ _ i => 8 - (intOf i).toNat)
      case atStart => exact ⟨0, by omega, by rw [HI.out]; rfl, rfl⟩
      case round =>
        obtain ⟨j, hj, rfl, rfl⟩ := hrel
        generalize hy : crcBits j (x ^^^ BitVec.ofNat 64 s[k].toNat) = y
        have HY := Lib.hid hy
        clear hy
        by_cases hlt2 : j < 8
        · go_wp2
          go_round
          case rel => exact ⟨j + 1, by omega, by rw [crc_bit, ← HY.out]; rfl, by go_num⟩
          case measure => simp [intOf]; omega
        · obtain rfl : j = 8 := by omega
          have HN := Lib.hid (take_snoc s k hlt)
          go_wp2
          go_round
          case rel => exact ⟨k + 1, by omega, by rw [HN.out, crcFold_snoc, HX.out, ← HY.out]; rfl, by go_num⟩
          case measure => simp [intOf]; omega
    · obtain rfl : k = s.size := by omega
      have HN := Lib.hid (crc_not x)
      have HT := Lib.hid (show s.data.toList.take s.size = s.data.toList from List.take_of_length_le (by simp))
      go_wp2
      go_ret
      refine ⟨?_, rfl⟩
      rw [HN.out]
      unfold crcMore
      rw [← HX.out, HT.out]
      rfl
end Go.Proofs.YtbkffeabikjnhaaDoor
