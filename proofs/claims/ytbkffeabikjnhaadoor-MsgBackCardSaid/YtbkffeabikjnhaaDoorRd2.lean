/- Vectors and marks out of any bytes. -/
import Derived.Test.YtbkffeabikjnhaaDoorRd
import Derived.Test.YtbkffeabikjnhaaDoorBody
namespace Go.Proofs.YtbkffeabikjnhaaDoor
open Go.RowKit

theorem Put.below_old {w w1 w2 : World} {g : Nat} (h : Below w.heap.size w w1) (k : Put w1 w2 g) : Put w w2 g := (Put.of_below h g).trans k
theorem see_vecNo (g : Nat) (s : ByteArray) (w : World) (h : EyeAt w g s) (hl : s.size ≤ 100000000000) (hbad : 48 ≤ s.size → (seeV s).good = false) :
    Calls Tryd.prog 74 #[.pointer (some ⟨g, 0, none⟩)] w fun e w' => (∃ c, c ≠ 0 ∧ e = .panicked (flt c)) ∧ (∃ s', EyeAt w' g s') ∧ Put w w' g := by
  have hglt := Box.lt h
  go_enter Tryd.func74, Tryd.ntmps74
  go_wp2_with (first
    | ((with_reducible refine gate (N := 2) rfl ?_); refine ev_alloc rfl 25 rfl zeroVec ?_; intro g2 w2 hx2 hb2 hg2 hl2)
    | ((with_reducible refine gate (N := 3) rfl ?_); refine ev_alloc rfl 25 rfl zeroVec ?_; intro g3 w3 hx3 hb3 hg3 hl3; rw [← vecArr_zero (seeV s)] at hx3))
  have h3 : EyeAt w3 g s := Box.below (Box.below h hb2) hb3
  have hn2 : g ≠ g2 := by omega
  have hn3 : g ≠ g3 := by have := hb2.size; omega
  have hn23 : g2 ≠ g3 := by omega
  have hw3 : w.heap.size ≤ g3 := by have := hb2.size; omega
  have HP := Put.of_below (bl_then hb2 hb3) g
  have hx23 := hx2.below hb3
  clear h hb2 hb3 hg3 hl2 hl3 hx2
  go_loopw [4, 5] (fun _ i wr => ∃ (j : Nat), j ≤ 8 ∧ 6 * j ≤ s.size ∧ i = .int .i64 j ∧ EyeAt wr g (eat s (6 * j)) ∧ Box wr g3 (vecArr (seeV s) j) 25 ∧ Box wr g2 V8.zero.arr 25 ∧ Put w wr g) (fun _ i _ => 8 - (intOf i).toNat)
  case atStart => exact ⟨0, by omega, by omega, rfl, by rw [Nat.mul_zero, eat_zero]; exact h3, hx3, hx23, HP⟩
  case round =>
    obtain ⟨j, hj, hj6, rfl, he, hx, hx0, hp⟩ := hrel
    by_cases hlt : j < 8
    · have H0 : (0 : Int) ≤ (j : Int) := by omega
      have H1 : (j : Int) < 8 := by omega
      by_cases hs6 : 6 * j + 6 ≤ s.size
      · have hq := eye_num g (eat s (6 * j)) 6 wr he (by omega) (by omega) (by rw [eat_size]; omega) (by rw [eat_size]; omega)
        rw [show (6 : Int).toNat = 6 from rfl, eat_eat, show 6 * j + 6 = 6 * (j + 1) from by omega, eat_list, show numOf (List.take 6 (List.drop (6 * j) s.data.toList)) = (seeV s).get j from (seeV_get s j hlt).symm] at hq
        have HQ := hide hq
        clear hq
        have HS := Lib.hid (vecArr_succ (seeV s) j hlt)
        have HZ := Lib.hid (vecArr_size (seeV s) j)
        generalize (seeV s).get j = x at HQ HS
        go_wp2_with (first
          | (go_at_call 73; (with_reducible refine (unhide HQ).mono ?_); rintro e w4 ⟨rfl, he4, hp4⟩; have hx4 := hx.put hp4 hn3.symm; have hx04 := hx0.put hp4 hn2.symm; have hc4 : w4.cell? ⟨g3, j, none⟩ = some ((vecArr (seeV s) j)[j]!) := (by rw [hx4.cell j]; simp [HZ.out, hlt]); have hf4 := hx4.frozen j))
        go_roundw
        case rel => exact ⟨j + 1, by omega, by omega, by go_num, Box.put he4 (Box.setPut _ _ _ _) hn3, hx4.set_ j _ HS.out, hx04.put (Box.setPut _ _ _ _) hn23, (hp.trans hp4).newSet hw3 _⟩
        case measure => simp [intOf]; omega
      · have hq := eye_Num6 g (eat s (6 * j)) wr he (by rw [eat_size]; omega)
        rw [show num? 6 (eat s (6 * j)) = none from by unfold num?; rw [eat_size, if_neg (by omega)]] at hq
        have HQ := hide hq
        clear hq
        go_wp2_with (first
          | (go_at_call 73; (with_reducible refine (unhide HQ).mono ?_); rintro e w4 ⟨⟨c, hc, rfl⟩, he4, hp4⟩))
        exact ⟨rfl, ⟨c, hc, rfl⟩, he4, hp.trans hp4⟩
    · obtain rfl : j = 8 := by omega
      rw [vecArr_full] at hx
      have hgx := hbad hj6
      generalize hv : seeV s = v at *
      go_wp2_with (first
        | ((with_reducible refine gate (N := 13) rfl ?_); refine ev_load rfl 25 (.tmp 3) rfl rfl hx aggVec sizeVec ?_)
        | (go_at_call 49; (with_reducible refine (vec_good v _).mono ?_); rintro e w5 ⟨rfl, hb5⟩; rw [hgx]; have hx5 := hx.below hb5; have hx05 := hx0.below hb5; have he5 : EyeAt w5 g (eat s (6 * 8)) := Box.below he hb5; have hp5 := hp.trans (Put.of_below hb5 g))
        | (go_at_call 108; have hq := eye_fail g (eat s (6 * 8)) 201 _ he5; (with_reducible refine hq.mono ?_); rintro e w' ⟨rfl, rfl⟩))
      exact ⟨rfl, ⟨201, by decide, rfl⟩, ⟨_, he5⟩, hp5⟩
def vec? (s : ByteArray) : Option (V8 × ByteArray) := if 48 ≤ s.size ∧ (seeV s).good = true then some (seeV s, eat s 48) else none
theorem see_Vec (g : Nat) (s : ByteArray) (w : World) (h : EyeAt w g s) (hl : s.size ≤ 100000000000) :
    Calls Tryd.prog 74 #[.pointer (some ⟨g, 0, none⟩)] w (Ans V8.val (vec? s) g w) := by
  unfold vec?
  by_cases hs : 48 ≤ s.size ∧ (seeV s).good = true
  · rw [if_pos hs]
    exact see_vec g s w h hs.1 hl hs.2
  · rw [if_neg hs]
    exact see_vecNo g s w h hl fun h8 => by
      cases hg : (seeV s).good
      · rfl
      · exact absurd ⟨h8, hg⟩ hs
def mark? (s : ByteArray) : Option (Mk × ByteArray) := if 12 ≤ s.size then some (⟨numAt s 0 6, numAt s 6 6⟩, eat s 12) else none
theorem see_markNo (g : Nat) (s : ByteArray) (w : World) (h : EyeAt w g s) (hs : s.size < 12) :
    Calls Tryd.prog 75 #[.pointer (some ⟨g, 0, none⟩)] w fun e w' => (∃ c, c ≠ 0 ∧ e = .panicked (flt c)) ∧ (∃ s', EyeAt w' g s') ∧ Put w w' g := by
  have hglt := Box.lt h
  go_enter Tryd.func75, Tryd.ntmps75
  go_wp2_with (first
    | ((with_reducible refine gate (N := 2) rfl ?_); refine ev_alloc rfl 39 rfl zeroMark ?_; intro g2 w2 hx2 hb2 hg2 hl2; refine stop ?_))
  unfold Stop
  have h2 : EyeAt w2 g s := Box.below h hb2
  have hn2 : g ≠ g2 := by omega
  have HP := Put.of_below hb2 g
  by_cases h6 : 6 ≤ s.size
  · have hq := eye_num g s 6 w2 h2 (by omega) (by omega) (by omega) (by omega)
    rw [show (6 : Int).toNat = 6 from rfl] at hq
    have HQ := hide hq
    clear hq h hb2 hl2
    go_wp2_with (first
      | (go_at_call 73; (with_reducible refine (unhide HQ).mono ?_); rintro e w3 ⟨rfl, he3, hp3⟩; have hx3 := hx2.put hp3 hn2.symm; clear HQ; refine stop ?_))
    unfold Stop
    have hq := eye_Num6 g (eat s 6) w3 he3 (by rw [eat_size]; omega)
    rw [show num? 6 (eat s 6) = none from by unfold num?; rw [eat_size, if_neg (by omega)]] at hq
    have HQ := hide hq
    clear hq
    go_wp2_with (first
      | (go_at_call 73; (with_reducible refine (unhide HQ).mono ?_); rintro e w4 ⟨⟨c, hc, rfl⟩, he4, hp4⟩))
    exact ⟨rfl, ⟨c, hc, rfl⟩, he4, (HP.trans hp3).trans hp4⟩
  · have hq := eye_Num6 g s w2 h2 (by omega)
    rw [show num? 6 s = none from by unfold num?; rw [if_neg h6]] at hq
    have HQ := hide hq
    clear hq
    go_wp2_with (first
      | (go_at_call 73; (with_reducible refine (unhide HQ).mono ?_); rintro e w4 ⟨⟨c, hc, rfl⟩, he4, hp4⟩))
    exact ⟨rfl, ⟨c, hc, rfl⟩, he4, HP.trans hp4⟩
theorem see_Mark (g : Nat) (s : ByteArray) (w : World) (h : EyeAt w g s) (hl : s.size ≤ 100000000000) :
    Calls Tryd.prog 75 #[.pointer (some ⟨g, 0, none⟩)] w (Ans Mk.val (mark? s) g w) := by
  unfold mark?
  by_cases hs : 12 ≤ s.size
  · rw [if_pos hs]
    exact see_mark g s w h hs hl
  · rw [if_neg hs]
    exact see_markNo g s w h (by omega)
end Go.Proofs.YtbkffeabikjnhaaDoor
