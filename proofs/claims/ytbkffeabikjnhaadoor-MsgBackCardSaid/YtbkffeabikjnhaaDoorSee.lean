/- Vectors and marks out of bytes: contracts where they can be. -/
import Derived.Test.YtbkffeabikjnhaaDoorEye
import Derived.Test.YtbkffeabikjnhaaDoorMsgA
namespace Go.Proofs.YtbkffeabikjnhaaDoor
open Go.RowKit

theorem eat_list (s : ByteArray) (n : Nat) : (eat s n).data.toList = s.data.toList.drop n := by
  unfold eat
  rw [ByteArray.data_extract]
  simp
  rw [List.take_of_length_le]
  simp
theorem ba_ext {a b : ByteArray} (h : a.data.toList = b.data.toList) : a = b := by
  apply ByteArray.ext
  exact Array.ext' h
theorem eat_eat (s : ByteArray) (a b : Nat) : eat (eat s a) b = eat s (a + b) := by
  apply ba_ext
  rw [eat_list, eat_list, eat_list, List.drop_drop]
theorem eat_zero (s : ByteArray) : eat s 0 = s := by apply ba_ext; rw [eat_list]; rfl
theorem eat_size (s : ByteArray) (n : Nat) : (eat s n).size = s.size - n := by unfold eat; rw [ByteArray.size_extract]; omega

def numAt (s : ByteArray) (off n : Nat) : Int := numOf ((s.data.toList.drop off).take n)
def seeV (s : ByteArray) : V8 := ⟨numAt s 0 6, numAt s 6 6, numAt s 12 6, numAt s 18 6, numAt s 24 6, numAt s 30 6, numAt s 36 6, numAt s 42 6⟩
theorem seeV_get (s : ByteArray) (j : Nat) (h : j < 8) : (seeV s).get j = numAt s (6 * j) 6 := by
  have h2 : j = 0 ∨ j = 1 ∨ j = 2 ∨ j = 3 ∨ j = 4 ∨ j = 5 ∨ j = 6 ∨ j = 7 := by omega
  rcases h2 with rfl | rfl | rfl | rfl | rfl | rfl | rfl | rfl <;> rfl
def vecArr (v : V8) (j : Nat) : Array Value := ((List.range 8).map fun i => if i < j then Value.int .i64 (v.get i) else Value.int .i64 0).toArray
abbrev V8.arr (v : V8) : Array Value := #[.int .i64 v.a0, .int .i64 v.a1, .int .i64 v.a2, .int .i64 v.a3, .int .i64 v.a4, .int .i64 v.a5, .int .i64 v.a6, .int .i64 v.a7]
def V8.zero : V8 := ⟨0, 0, 0, 0, 0, 0, 0, 0⟩
theorem vecArr_zero (v : V8) : vecArr v 0 = V8.zero.arr := by simp [vecArr, List.range, List.range.loop, V8.zero]
theorem vecArr_full (v : V8) : vecArr v 8 = v.arr := by simp [vecArr, List.range, List.range.loop, V8.get, V8.list]
theorem vecArr_size (v : V8) (j : Nat) : (vecArr v j).size = 8 := by simp [vecArr]
theorem vecArr_succ (v : V8) (j : Nat) (h : j < 8) : (vecArr v j).setIfInBounds j (.int .i64 (v.get j)) = vecArr v (j + 1) := by
  have h2 : j = 0 ∨ j = 1 ∨ j = 2 ∨ j = 3 ∨ j = 4 ∨ j = 5 ∨ j = 6 ∨ j = 7 := by omega
  rcases h2 with rfl | rfl | rfl | rfl | rfl | rfl | rfl | rfl <;> simp [vecArr, List.range, List.range.loop]
theorem zeroVec : (Tryd.prog.info? 25).map (·.zero) = some (some (.agg V8.zero.arr)) := by kernel_rfl
theorem sizeVec : (Tryd.prog.info? 25).map (·.size) = some 8 := by kernel_rfl
theorem aggVec : isAggT Tryd.prog 25 = true := by kernel_rfl
theorem oneVec (v : V8) : ∀ u ∈ v.arr.toList, u.oneCell' = true := by simp [Value.oneCell']
theorem zeroMark : (Tryd.prog.info? 39).map (·.zero) = some (some (.agg #[.int .i64 0, .int .i64 0])) := by kernel_rfl
theorem sizeMark : (Tryd.prog.info? 39).map (·.size) = some 2 := by kernel_rfl
theorem aggMark : isAggT Tryd.prog 39 = true := by kernel_rfl
theorem Put.newSet {w w1 : World} {g : Nat} (h : Put w w1 g) {p : Addr} (hp : w.heap.size ≤ p.block) (u : Value) : Put w (w1.setCell p u) g :=
  ⟨h.os, h.tape, h.output, by simpa [World.setCell] using h.size, fun k hk hne => (Below.heap_setCell w1 p u k (by omega)).trans (h.block k hk hne)⟩
theorem Put.newPut {w w1 w2 : World} {g g' : Nat} (h : Put w w1 g) (hp : Put w1 w2 g') (hg : w.heap.size ≤ g') : Put w w2 g :=
  ⟨hp.os.trans h.os, hp.tape.trans h.tape, hp.output.trans h.output, Nat.le_trans h.size hp.size, fun k hk hne => (hp.block k (Nat.lt_of_lt_of_le hk h.size) (by omega)).trans (h.block k hk hne)⟩

theorem see_vec (g : Nat) (s : ByteArray) (w : World) (h : EyeAt w g s) (hs : 48 ≤ s.size) (hl : s.size ≤ 100000000000) (hg : (seeV s).good = true) :
    Calls Tryd.prog 74 #[.pointer (some ⟨g, 0, none⟩)] w fun e w' => e = .returned (seeV s).val ∧ EyeAt w' g (eat s 48) ∧ Put w w' g := by
  have hglt := Box.lt h
  go_enter Tryd.func74, Tryd.ntmps74
  go_wp2_with (first
    | ((with_reducible refine gate (N := 2) rfl ?_); refine ev_alloc rfl 25 rfl zeroVec ?_; intro g2 w2 hx2 hb2 hg2 hl2)
    | ((with_reducible refine gate (N := 3) rfl ?_); refine ev_alloc rfl 25 rfl zeroVec ?_; intro g3 w3 hx3 hb3 hg3 hl3; rw [← vecArr_zero (seeV s)] at hx3))
  have h3 : EyeAt w3 g s := Box.below (Box.below h hb2) hb3
  have hn2 : g ≠ g2 := by omega
  have hn3 : g ≠ g3 := by have := hb2.size; omega
  have hn23 : g2 ≠ g3 := by omega
  have hw3 : w.heap.size ≤ g3 := by have := hb2.size; omega
  have HP := Put.of_below (bl_then hb2 hb3) g
  have hx23 := hx2.below hb3
  clear h hb2 hb3 hg3 hl2 hl3 hx2
  go_loopw [4, 5] (fun _ i wr => ∃ (j : Nat), j ≤ 8 ∧ i = .int .i64 j ∧ EyeAt wr g (eat s (6 * j)) ∧ Box wr g3 (vecArr (seeV s) j) 25 ∧ Box wr g2 V8.zero.arr 25 ∧ Put w wr g) (fun _ i _ => 8 - (intOf i).toNat)
  case atStart => exact ⟨0, by omega, rfl, by rw [Nat.mul_zero, eat_zero]; exact h3, hx3, hx23, HP⟩
  case round =>
    obtain ⟨j, hj, rfl, he, hx, hx0, hp⟩ := hrel
    by_cases hlt : j < 8
    · have hq := eye_num g (eat s (6 * j)) 6 wr he (by omega) (by omega) (by rw [eat_size]; omega) (by rw [eat_size]; omega)
      rw [show (6 : Int).toNat = 6 from rfl, eat_eat, show 6 * j + 6 = 6 * (j + 1) from by omega, eat_list, show numOf (List.take 6 (List.drop (6 * j) s.data.toList)) = (seeV s).get j from (seeV_get s j hlt).symm] at hq
      have HQ := hide hq
      clear hq
      have HS := Lib.hid (vecArr_succ (seeV s) j hlt)
      have HZ := Lib.hid (vecArr_size (seeV s) j)
      generalize (seeV s).get j = x at HQ HS
      have H0 : (0 : Int) ≤ (j : Int) := by omega
      have H1 : (j : Int) < 8 := by omega
      go_wp2_with (first
        | (go_at_call 73; (with_reducible refine (unhide HQ).mono ?_); rintro e w4 ⟨rfl, he4, hp4⟩; have hx4 := hx.put hp4 hn3.symm; have hx04 := hx0.put hp4 hn2.symm; have hc4 : w4.cell? ⟨g3, j, none⟩ = some ((vecArr (seeV s) j)[j]!) := (by rw [hx4.cell j]; simp [HZ.out, hlt]); have hf4 := hx4.frozen j))
      go_roundw
      case rel => exact ⟨j + 1, by omega, by go_num, Box.put he4 (Box.setPut _ _ _ _) hn3, hx4.set_ j _ HS.out, hx04.put (Box.setPut _ _ _ _) hn23, (hp.trans hp4).newSet hw3 _⟩
      case measure => simp [intOf]; omega
    · obtain rfl : j = 8 := by omega
      rw [vecArr_full] at hx
      have hgx := hg
      have hsv : Hid ((seeV s) = (seeV s)) := Lib.hid rfl
      generalize hv : seeV s = v at *
      have HV := Lib.hid hv
      clear hv hsv
      go_wp2_with (first
        | ((with_reducible refine gate (N := 13) rfl ?_); refine ev_load rfl 25 (.tmp 3) rfl rfl hx aggVec sizeVec ?_)
        | (go_at_call 49; (with_reducible refine (vec_good v _).mono ?_); rintro e w5 ⟨rfl, hb5⟩; rw [hgx]; have hx5 := hx.below hb5; have hx05 := hx0.below hb5; have he5 := Box.below he hb5; have hp5 := hp.trans (Put.of_below hb5 g))
        | ((with_reducible refine gate (N := 18) rfl ?_); refine stop ?_))
      unfold Stop
      refine ev_load rfl 25 (.tmp 3) rfl rfl hx5 aggVec sizeVec ?_
      refine ev_setAll rfl 25 (.tmp 2) (.tmp 18) rfl rfl (vs := v.arr) hx05 rfl (oneVec v) sizeVec rfl ?_
      intro w6 hx6 hp6
      have he6 : EyeAt w6 g (eat s 48) := Box.put he5 hp6 hn2
      have hp7 := hp5.newPut hp6 hg2
      clear hx5 hx05 he5 hp5 hp6
      go_wp2
      refine bodyPost_ret (results_cell_row rfl _ w6 g2 25 v.arr (0, 0) _ rfl hx6 Tryd.underlying25 rfl sizeVec) rfl ⟨by rw [HV.out], he6, hp7⟩

theorem see_mark (g : Nat) (s : ByteArray) (w : World) (h : EyeAt w g s) (hs : 12 ≤ s.size) (hl : s.size ≤ 100000000000) :
    Calls Tryd.prog 75 #[.pointer (some ⟨g, 0, none⟩)] w fun e w' => e = .returned (Mk.val ⟨numAt s 0 6, numAt s 6 6⟩) ∧ EyeAt w' g (eat s 12) ∧ Put w w' g := by
  have hglt := Box.lt h
  go_enter Tryd.func75, Tryd.ntmps75
  go_wp2_with (first
    | ((with_reducible refine gate (N := 2) rfl ?_); refine ev_alloc rfl 39 rfl zeroMark ?_; intro g2 w2 hx2 hb2 hg2 hl2; refine stop ?_))
  unfold Stop
  have h2 : EyeAt w2 g s := Box.below h hb2
  have hn2 : g ≠ g2 := by omega
  have HP := Put.of_below hb2 g
  have hq := eye_num g s 6 w2 h2 (by omega) (by omega) (by omega) hl
  rw [show (6 : Int).toNat = 6 from rfl, show numOf (List.take 6 s.data.toList) = numAt s 0 6 from rfl] at hq
  have HQ := hide hq
  clear hq h hb2 hl2
  go_wp2_with (first
    | (go_at_call 73; (with_reducible refine (unhide HQ).mono ?_); rintro e w3 ⟨rfl, he3, hp3⟩; have hx3 := hx2.put hp3 hn2.symm; clear HQ; refine stop ?_))
  unfold Stop
  have hq := eye_num g (eat s 6) 6 w3 he3 (by omega) (by omega) (by rw [eat_size]; omega) (by rw [eat_size]; omega)
  rw [show (6 : Int).toNat = 6 from rfl, eat_eat, eat_list, show numOf (List.take 6 (List.drop 6 s.data.toList)) = numAt s 6 6 from rfl] at hq
  have HQ := hide hq
  clear hq
  go_wp2_with (first
    | (go_at_call 73; (with_reducible refine (unhide HQ).mono ?_); rintro e w4 ⟨rfl, he4, hp4⟩; have hx4 := hx3.put hp4 hn2.symm; have hc4 := hx4.cell; have hf4 := hx4.frozen))
  have hx5 := hx4.set_ 0 (.int .i64 (numAt s 0 6)) (cs' := #[.int .i64 (numAt s 0 6), .int .i64 0]) rfl
  have hx6 := hx5.set_ 1 (.int .i64 (numAt s 6 6)) (cs' := #[.int .i64 (numAt s 0 6), .int .i64 (numAt s 6 6)]) rfl
  refine bodyPost_ret (results_cell_row rfl _ _ g2 39 #[.int .i64 (numAt s 0 6), .int .i64 (numAt s 6 6)] (0, 0) _ rfl hx6 Tryd.underlying39 rfl sizeMark) rfl ⟨rfl, ?_, ?_⟩
  · exact Box.put (Box.put he4 (Box.setPut _ _ _ _) hn2) (Box.setPut _ _ _ _) hn2
  · exact (((HP.trans hp3).trans hp4).newSet hg2 _).newSet hg2 _
end Go.Proofs.YtbkffeabikjnhaaDoor
