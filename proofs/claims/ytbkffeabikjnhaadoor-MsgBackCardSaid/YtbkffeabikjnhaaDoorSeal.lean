/- Sums: Of, Seal, Open. -/
import Derived.Test.YtbkffeabikjnhaaDoorCrc
import Derived.Test.YtbkffeabikjnhaaDoorOct
import Derived.Test.YtbkffeabikjnhaaDoorEv
namespace Go.Proofs.YtbkffeabikjnhaaDoor
open Go.RowKit

theorem crc_more0 (s : ByteArray) (w : World) (hs : s.size ≤ 100000000000) :
    Calls Tryd.prog 124 #[.int .u64 0, .string s] w fun e w' => e = .returned (.int .u64 (crcMore 0#64 s.data.toList).toNat) ∧ w = w' := crc_more 0#64 s w hs
theorem crc_of (s : ByteArray) (w : World) (hs : s.size ≤ 100000000000) :
    Calls Tryd.prog 105 #[.string s] w fun e w' => e = .returned (.int .u64 (crcMore 0#64 s.data.toList).toNat) ∧ w = w' := by
  go_enter Tryd.func105, Tryd.ntmps105
  go_wp2_with (go_at_call 124; with_reducible refine (crc_more0 s _ hs).mono ?_; rintro e w' ⟨rfl, rfl⟩)
  go_ret
  exact ⟨rfl, rfl⟩

def sumBytes (x : BitVec 64) : List UInt8 := (List.range 8).map fun i => u8 ((x.toNat : Int) / 2 ^ (8 * i))
theorem sumBytes_length (x : BitVec 64) : (sumBytes x).length = 8 := by simp [sumBytes]
def sumArr (x : BitVec 64) (j : Nat) : Array Value := ((List.range 8).map fun i => if i < j then Value.int .u8 ((u8 ((x.toNat : Int) / 2 ^ (8 * i))).toNat) else Value.int .u8 0).toArray
def sealed (l : List UInt8) : List UInt8 := l ++ sumBytes (crcMore 0#64 l)

theorem sumArr_size (x : BitVec 64) (j : Nat) : (sumArr x j).size = 8 := by simp [sumArr]
theorem sumArr_zero (x : BitVec 64) : sumArr x 0 = #[.int .u8 0, .int .u8 0, .int .u8 0, .int .u8 0, .int .u8 0, .int .u8 0, .int .u8 0, .int .u8 0] := by
  simp [sumArr, List.range, List.range.loop]
theorem sumArr_succ (x : BitVec 64) (j : Nat) (h : j < 8) : (sumArr x j).setIfInBounds j (.int .u8 ((x.toNat : Int) / 2 ^ (8 * j) % 256)) = sumArr x (j + 1) := by
  rw [← u8_val]
  have h2 : j = 0 ∨ j = 1 ∨ j = 2 ∨ j = 3 ∨ j = 4 ∨ j = 5 ∨ j = 6 ∨ j = 7 := by omega
  rcases h2 with rfl | rfl | rfl | rfl | rfl | rfl | rfl | rfl <;> simp [sumArr, List.range, List.range.loop]
theorem sumArr_full (x : BitVec 64) : (sumArr x 8).toList = encB.all (sumBytes x) := by
  rw [encB_all]
  simp [sumArr, sumBytes, List.range, List.range.loop]
theorem zeroB8 : (Tryd.prog.info? 141).map (·.zero) = some (some (.agg #[.int .u8 0, .int .u8 0, .int .u8 0, .int .u8 0, .int .u8 0, .int .u8 0, .int .u8 0, .int .u8 0])) := by kernel_rfl
/-- A whole array, sliced. -/
theorem box_read {α : Type} {E : Enc α} {w : World} {g : Nat} {cs : Array Value} {t : TypeId} (h : Box w g cs t) (xs : List α) (hc : cs.toList = E.all xs) (hm : xs.length ≤ 9223372036854775807) : E.R w (.slice (some ⟨g, 0, none⟩) xs.length xs.length) xs := by
  refine ⟨E.all_length xs, _, _, rfl, Nat.le_refl _, hm, .inr ⟨_, rfl, fun j u hu => ?_⟩⟩
  have ha : (⟨g, 0, none⟩ : Addr).add j = ⟨g, j, none⟩ := by unfold Addr.add; split <;> simp_all
  rw [ha, h.cell j, ← Array.getElem?_toList, hc]
  exact hu

theorem ba_append (s : ByteArray) (l : List UInt8) : s ++ ⟨l.toArray⟩ = ⟨(s.data.toList ++ l).toArray⟩ := by
  apply ByteArray.ext
  rw [ByteArray.data_append]
  simp
theorem beq_dec (a b : List UInt8) : (a == b) = decide (a = b) := by rw [Bool.eq_iff_iff]; simp
theorem crc_seal (s : ByteArray) (w : World) (hs : s.size ≤ 10000000000) :
    Calls Tryd.prog 64 #[.string s] w fun e w' => e = .returned (.string ⟨(sealed s.data.toList).toArray⟩) ∧ Below w.heap.size w w' := by
  unfold sealed
  generalize hx : crcMore 0#64 s.data.toList = x
  have HX := Lib.hid hx
  clear hx
  go_enter Tryd.func64, Tryd.ntmps64
  go_wp2_with (first
    | (go_at_call 105; with_reducible refine (crc_of s _ (by omega)).mono ?_; rintro e w' ⟨rfl, rfl⟩; rw [HX.out])
    | ((with_reducible refine gate (N := 4) rfl ?_); refine ev_alloc rfl 141 rfl zeroB8 ?_; intro g1 w1 hx1 hb1 hg1 hl1; rw [← sumArr_zero x] at hx1))
  go_loopw [5, 8] (fun i5 i8 wr => ∃ (j : Nat), j ≤ 8 ∧ i8 = .int .i64 j ∧ Box wr g1 (sumArr x j) 141 ∧ Below w.heap.size w wr) (fun _ i _ => 8 - (intOf i).toNat)
  case atStart => exact ⟨0, by omega, rfl, hx1, hb1⟩
  case round =>
    obtain ⟨j, hj, rfl, hx2, hb2⟩ := hrel
    by_cases hlt : j < 8
    · have hc : wr.cell? ⟨g1, j, none⟩ = some (sumArr x j)[j]! := by rw [hx2.cell j]; simp [sumArr_size, hlt]
      have hf := hx2.frozen j
      have H0 : (0 : Int) ≤ (j : Int) := by omega
      have H1 : (j : Int) < 8 := by omega
      have H2 : (0 : Int) ≤ 8 * (j : Int) := by omega
      go_wp2
      go_roundw
      case rel => exact ⟨j + 1, by omega, by go_num, hx2.set_ j _ (sumArr_succ x j hlt), bl_set hb2 hg1 _⟩
      case measure => simp [intOf]; omega
    · obtain rfl : j = 8 := by omega
      have hr : encB.R wr (.slice (some ⟨g1, 0, none⟩) 8 8) (sumBytes x) := box_read hx2 (sumBytes x) (sumArr_full x) (by rw [sumBytes_length]; omega)
      have hconv := conv_bytes hr 54 9 5 Tryd.underlying54 Tryd.underlying5 Tryd.underlying9
      have hq : ¬ (9223372036854775807 < s.size + (sumBytes x).length) := by rw [sumBytes_length]; omega
      go_wp2
      go_ret
      refine ⟨?_, hb2⟩
      rw [← ba_append]
      rfl

def openCut (s : ByteArray) : ByteArray := s.extract 0 (s.size - 8)
def openOk (s : ByteArray) : Bool := decide (8 ≤ s.size) && decide (sealed (openCut s).data.toList = s.data.toList)
theorem crc_open (s : ByteArray) (w : World) (hs : s.size ≤ 10000000000) :
    Calls Tryd.prog 70 #[.string s] w fun e w' => e = .returned (.tuple #[.string (if 8 ≤ s.size then openCut s else ⟨#[]⟩), .bool (openOk s)]) ∧ Below w.heap.size w w' := by
  by_cases h8 : s.size < 8
  · have hn : ¬ 8 ≤ s.size := by omega
    rw [if_neg hn, show openOk s = false from by simp [openOk, hn]]
    clear hn
    go_enter Tryd.func70, Tryd.ntmps70
    go_wp2
    go_ret2
    exact ⟨rfl, Below.refl _ _⟩
  · have hn : 8 ≤ s.size := by omega
    rw [if_pos hn]
    have HO : Hid (openOk s = decide (sealed (openCut s).data.toList = s.data.toList)) := Lib.hid (by simp [openOk, hn])
    rw [HO.out]
    clear HO hn
    have hcs : (openCut s).size ≤ 10000000000 := by unfold openCut; rw [ByteArray.size_extract]; omega
    go_enter Tryd.func70, Tryd.ntmps70
    go_wp2_with fail
    refine (crc_seal (openCut s) _ hcs).mono ?_
    rintro e w1 ⟨rfl, hb1⟩
    generalize hc : sealed (openCut s).data.toList = c
    have HC := Lib.hid hc
    clear hc
    go_wp2
    go_ret2
    refine ⟨?_, hb1⟩
    rw [← beq_dec, ← ByteArray.toList_eq s, HC.out]
    rfl
end Go.Proofs.YtbkffeabikjnhaaDoor
