/- The functions of octet that write: contracts. -/
import Derived.Test.YtbkffeabikjnhaaDoorProg
import Derived.Test.YtbkffeabikjnhaaDoorBase
namespace Go.Proofs.YtbkffeabikjnhaaDoor
open Go.RowKit

theorem wide_any (n : Int) (w : World) : Calls Tryd.prog 104 #[.int .i64 n] w fun e w' => e = .returned (.bool (decide (1 ≤ n ∧ n ≤ 8))) ∧ w = w' := by
  by_cases h : 1 ≤ n
  · go_enter Tryd.func104, Tryd.ntmps104
    go_wp2
    go_ret
    simp [h]
  · have h' : ¬ 1 ≤ n := by omega
    go_enter Tryd.func104, Tryd.ntmps104
    go_wp2
    go_ret
    simp; omega

theorem infoU8 : (Tryd.prog.info? 5).map (fun i => (i.zero, i.size, i.bytes)) = some (some (.int .u8 0), 1, 1) := by kernel_rfl

def u8 (z : Int) : UInt8 := UInt8.ofNat (z % 256).toNat
theorem u8_val (z : Int) : ((u8 z).toNat : Int) = z % 256 := by
  unfold u8
  rw [UInt8.toNat_ofNat']
  omega
def putN (n : Int) (w : Nat) : List UInt8 := (List.range w).reverse.map fun i => u8 (n / 2 ^ (8 * i))
theorem putN_length (n : Int) (w : Nat) : (putN n w).length = w := by simp [putN]

theorem putN_take (n : Int) (k j : Nat) (h : j < k) : (putN n k).take (j + 1) = (putN n k).take j ++ [u8 (n / 2 ^ (8 * (k - 1 - j)))] := by
  rw [List.take_add_one]
  congr 1
  simp only [putN, List.getElem?_map]
  rw [List.getElem?_reverse (by simpa using h)]
  simp [List.length_range, List.getElem?_range (show k - 1 - j < k by omega)]
theorem oct_put (n : Int) (k : Int) (v : Value) (xs : List UInt8) (w : World) (hk1 : 1 ≤ k) (hk8 : k ≤ 8) (hr : encB.R w v xs) (hl : xs.length ≤ 1000000000) :
    Calls Tryd.prog 60 #[v, .int .i64 n, .int .i64 k] w fun e w' => ∃ v', e = .returned v' ∧ encB.O w' w.heap.size 5 v' (xs ++ putN n k.toNat) ∧ Below w.heap.size w w' := by
  obtain ⟨k, rfl⟩ := Int.eq_ofNat_of_zero_le (show 0 ≤ k by omega)
  rw [Int.toNat_natCast]
  have hdec : decide (1 ≤ (k : Int) ∧ (k : Int) ≤ 8) = true := by simp; omega
  go_enter Tryd.func60, Tryd.ntmps60
  go_wp2_with (at_builtin; refine Enc.app (E := encB) rfl (.tmp 9) (.tmp 10) 54 54 rfl (base := w.heap.size) (.int .u8 0) 1 Tryd.underlying54 infoU8 rfl (xs := []) rfl ?own (ys := xs) rfl ?src (by simp; omega) (by omega) (by simp) ?_)
  case own => exact Enc.O.lit #[] [] rfl (Nat.le_refl _) (by simp [maxLen])
  case src => exact (hr.below (bl_alloc (Below.refl _ _) _)).src Tryd.underlying54
  intro v1 w1 hown hg hat
  have hb : Below w.heap.size w w1 := bl_grown (bl_alloc (Below.refl _ _) _) hg (by intro k hk; simp [Value.ownBlock] at hk; omega)
  clear hg hat hr
  go_wp2_with (go_at_call 104; refine (wide_any _ _).mono ?_; rintro e w' ⟨rfl, rfl⟩)
  go_loopw [7, 8] (fun o i wr => ∃ (j : Nat) (vo : Value), j ≤ k ∧ o = vo ∧ i = .int .i64 ((k : Int) - 1 - j) ∧ encB.O wr w.heap.size 5 vo (xs ++ (putN n k).take j) ∧ Below w.heap.size w wr) (fun _ i _ => (intOf i + 1).toNat)
  case atStart => exact ⟨0, v1, by omega, rfl, by simp, by simpa using hown, hb⟩
  case round =>
    obtain ⟨j, vo, hj, rfl, rfl, hown2, hb2⟩ := hrel
    by_cases hlt : j < k
    · have h0 : 0 ≤ (k : Int) - 1 - j := by omega
      have hlen : (xs ++ (putN n k).take j).length < 100000000000 := by rw [List.length_append, List.length_take, putN_length]; omega
      have HL := Lib.hid hlen
      have HN := Lib.hid (putN_take n k j hlt)
      clear hlen
      go_wp2_with (at_builtin; refine Enc.app1 (E := encB) rfl (.tmp 22) (.tmp 28) 54 rfl (.int .u8 0) 1 Tryd.underlying54 infoU8 rfl rfl hown2 (u8 (n / 2 ^ (8 * (k - 1 - j)))) (by simp [encB, u8_val]) rfl HL.out (by omega) hb2.size ?_)
      intro v2 w2 hown3 hg3 hat3
      have hb3 : Below w.heap.size w w2 := bl_grown hb2 hg3 hown2.base
      rw [← HN.out] at hown3
      clear hg3 hat3 hown2 HN HL
      go_wp2
      go_roundw
      case rel => exact ⟨j + 1, _, by omega, rfl, by go_num, hown3, hb3⟩
      case measure => simp [intOf]; omega
    · obtain rfl : j = k := by omega
      have h0 : (j : Int) - 1 - j = -1 := by omega
      rw [List.take_of_length_le (by rw [putN_length]; exact Nat.le_refl _)] at hown2
      go_wp2
      go_ret
      exact ⟨_, rfl, hown2, hb2⟩
theorem oct_text (v : Value) (s : ByteArray) (xs : List UInt8) (w : World) (hs : s.size ≤ 65535) (hr : encB.R w v xs) (hl : xs.length ≤ 100000000) :
    Calls Tryd.prog 63 #[v, .string s] w fun e w' => ∃ v', e = .returned v' ∧ encB.O w' w.heap.size 5 v' (xs ++ putN s.size 2 ++ s.data.toList) ∧ Below w.heap.size w w' := by
  have hx : s.extract 0 s.size = s := by apply ByteArray.ext; simp
  have hm : min (s.size : Int) 65535 = s.size := by omega
  have h0 : (0 : Int) ≤ (s.size : Int) := by omega
  have hlen : (xs ++ putN s.size 2).length + s.data.toList.length ≤ 100000000000 := by
    rw [List.length_append, putN_length, Array.length_toList]; show xs.length + 2 + s.size ≤ _; omega
  have HL := Lib.hid hlen
  clear hlen
  go_enter Tryd.func63, Tryd.ntmps63
  go_wp2_with fail
  refine (oct_put (s.size : Int) 2 v xs w (by omega) (by omega) hr (by omega)).mono ?_
  rintro e w1 ⟨v1, rfl, ho, hb1⟩
  go_wp2_with (at_builtin; refine Enc.app (E := encB) rfl (.tmp 13) (.tmp 14) 54 9 rfl (.int .u8 0) 1 Tryd.underlying54 infoU8 rfl rfl ho rfl (src_str w1 Tryd.underlying9 s) HL.out (by omega) hb1.size ?_)
  intro v2 w2 ho2 hg2 hat2
  have hb2 : Below w.heap.size w w2 := bl_grown hb1 hg2 ho.base
  clear hg2 hat2 ho
  go_wp2
  go_ret
  exact ⟨_, rfl, by rw [List.append_assoc]; exact ho2, hb2⟩
end Go.Proofs.YtbkffeabikjnhaaDoor
