/- The document's sums: what the program's are. -/
import Derived.Test.YtbkffeabikjnhaaDoorLoc5
import Derived.Test.YtbkffeabikjnhaaDoorSeal
namespace Go.Proofs.YtbkffeabikjnhaaDoor
open Go.RowKit

theorem and_one (c : BitVec 64) : (c &&& 1#64).toNat = c.toNat % 2 := by
  rw [BitVec.toNat_and]
  exact Nat.and_one_is_mod _
theorem crcBit_odd (c : BitVec 64) (h : c.toNat % 2 = 1) : crcBit c = (c >>> 1) ^^^ crcPoly := by
  have e : c &&& 1#64 = 1#64 := BitVec.eq_of_toNat_eq (by rw [and_one, h]; rfl)
  unfold crcBit
  rw [e]
  rfl
theorem crcBit_even (c : BitVec 64) (h : c.toNat % 2 = 0) : crcBit c = c >>> 1 := by
  have e : c &&& 1#64 = 0#64 := BitVec.eq_of_toNat_eq (by rw [and_one, h]; rfl)
  unfold crcBit
  rw [e]
  simp
theorem bv_not (c : BitVec 64) : 18446744073709551615 - (c.toNat : Int) = ((~~~ c).toNat : Int) := by
  have := bv_lt c
  rw [BitVec.toNat_not]
  omega
theorem wrap_bv (c : BitVec 64) : IntKind.u64.wrap (c.toNat : Int) = (c.toNat : Int) := by
  have := bv_lt c
  rw [IntKind.wrap_u64]
  omega
theorem poly_in (x : BitVec 64) : bits .xor .u64 (x.toNat : Int) 14514072000185962306 = ((x ^^^ crcPoly).toNat : Int) := by
  rw [bv_poly, bv_xor]
theorem rcrc_more (c : BitVec 64) (s : ByteArray) (w : World) (hs : s.size ≤ 100000000000) :
    Calls Tryd.prog 125 #[.int .u64 c.toNat, .string s] w fun e w' => e = .returned (.int .u64 (crcMore c s.data.toList).toNat) ∧ w = w' := by
  have h1 := Lib.hid (bv_not c)
  have hcl := bv_lt c
  go_enter Tryd.func125, Tryd.ntmps125
  go_wp2
  go_loop [5, 6, 7, 12, 21] (fun c5 i6 l7 i12 i21 => ∃ k : Nat, k ≤ s.size ∧ c5 = .int .u64 (crcFold (~~~ c) (s.data.toList.take k)).toNat ∧ i12 = .int .i64 k) (fun _ _ _ i _ => s.size - (intOf i).toNat)
  case atStart => exact ⟨0, by omega, by rw [h1.out]; rfl, rfl⟩
  case round =>
    obtain ⟨k, hk, rfl, rfl⟩ := hrel
    generalize hx : crcFold (~~~ c) (s.data.toList.take k) = x
    have HX := Lib.hid hx
    clear hx
    by_cases hlt : k < s.size
    · go_wp2
      have HI := Lib.hid (crc_in x s[k])
      go_loop [5, 7, 21] (fun c5 l7 i21 => ∃ (j : Nat), j ≤ 8 ∧ c5 = .int .u64 (crcBits j (x ^^^ BitVec.ofNat 64 s[k].toNat)).toNat ∧ i21 = .int .i64 j) (fun _ _ i => 8 - (intOf i).toNat)
      case atStart => exact ⟨0, by omega, by rw [HI.out]; rfl, rfl⟩
      case round =>
        obtain ⟨j, hj, rfl, rfl⟩ := hrel
        generalize hy : crcBits j (x ^^^ BitVec.ofNat 64 s[k].toNat) = y
        have HY := Lib.hid hy
        clear hy
        have hyl := bv_lt y
        by_cases hlt2 : j < 8
        · by_cases ho : y.toNat % 2 = 1
          · have t2 : ((y.toNat : Int) % 2 == 1) = true := by simp; omega
            have HB := Lib.hid (crcBit_odd y ho)
            clear ho
            go_wp2
            go_round
            case rel => exact ⟨j + 1, by omega, by rw [bv_shr1, poly_in, ← HB.out, ← HY.out]; rfl, by go_num⟩
            case measure => simp [intOf]; omega
          · have t2 : ((y.toNat : Int) % 2 == 1) = false := by simp; omega
            have HB := Lib.hid (crcBit_even y (by omega))
            clear ho
            go_wp2
            go_round
            case rel => exact ⟨j + 1, by omega, by rw [bv_shr1, ← HB.out, ← HY.out]; rfl, by go_num⟩
            case measure => simp [intOf]; omega
        · obtain rfl : j = 8 := by omega
          have HN := Lib.hid (take_snoc s k hlt)
          go_wp2
          go_round
          case rel => exact ⟨k + 1, by omega, by rw [HN.out, crcFold_snoc, HX.out, ← HY.out]; rfl, by go_num⟩
          case measure => simp [intOf]; omega
    · obtain rfl : k = s.size := by omega
      have HN := Lib.hid (bv_not x)
      have hxl := bv_lt x
      have HT := Lib.hid (show s.data.toList.take s.size = s.data.toList from List.take_of_length_le (by simp))
      go_wp2
      go_ret
      refine ⟨?_, rfl⟩
      rw [HN.out]
      unfold crcMore
      rw [← HX.out, HT.out]
      rfl
theorem rcrc_of (s : ByteArray) (w : World) (hs : s.size ≤ 100000000000) :
    Calls Tryd.prog 106 #[.string s] w fun e w' => e = .returned (.int .u64 (crcMore 0#64 s.data.toList).toNat) ∧ w = w' := by
  have h0 : Calls Tryd.prog 125 #[.int .u64 0, .string s] w fun e w' => e = .returned (.int .u64 (crcMore 0#64 s.data.toList).toNat) ∧ w = w' := rcrc_more 0#64 s w hs
  go_enter Tryd.func106, Tryd.ntmps106
  go_wp2_with (go_at_call 125; with_reducible refine h0.mono ?_; rintro e w' ⟨rfl, rfl⟩)
  go_ret
  exact ⟨rfl, rfl⟩
end Go.Proofs.YtbkffeabikjnhaaDoor
