/- Messages out of bytes: what looks at them, where they can be. -/
import Derived.Test.YtbkffeabikjnhaaDoorSee
import Derived.Test.YtbkffeabikjnhaaDoorBare
namespace Go.Proofs.YtbkffeabikjnhaaDoor
open Go.RowKit

/-- Only blocks g and h have turned, and what is new. -/
structure Put2 (w w1 : World) (g h : Nat) : Prop where
  os : w1.os = w.os
  tape : w1.tape = w.tape
  output : w1.output = w.output
  size : w.heap.size ≤ w1.heap.size
  block : ∀ k, k < w.heap.size → k ≠ g → k ≠ h → w1.heap[k]? = w.heap[k]?
theorem Put.two {w w1 : World} {g : Nat} (p : Put w w1 g) (h : Nat) : Put2 w w1 g h := ⟨p.os, p.tape, p.output, p.size, fun k hk h1 _ => p.block k hk h1⟩
theorem Put.two' {w w1 : World} {h : Nat} (p : Put w w1 h) (g : Nat) : Put2 w w1 g h := ⟨p.os, p.tape, p.output, p.size, fun k hk _ h2 => p.block k hk h2⟩
theorem Put2.trans {a b c : World} {g h : Nat} (p : Put2 a b g h) (q : Put2 b c g h) : Put2 a c g h :=
  ⟨q.os.trans p.os, q.tape.trans p.tape, q.output.trans p.output, Nat.le_trans p.size q.size, fun i hi h1 h2 => (q.block i (Nat.lt_of_lt_of_le hi p.size) h1 h2).trans (p.block i hi h1 h2)⟩
theorem Box.put2 {w w1 : World} {b g h : Nat} {cs : Array Value} {t : TypeId} (hx : Box w b cs t) (p : Put2 w w1 g h) (h1 : b ≠ g) (h2 : b ≠ h) : Box w1 b cs t := (p.block b hx.lt h1 h2).trans hx
theorem numAt_eat (s : ByteArray) (a off n : Nat) : numAt (eat s a) off n = numAt s (a + off) n := by
  unfold numAt; rw [eat_list, List.drop_drop]
/-- A number that lies at an offset. -/
theorem num_at (g : Nat) (s : ByteArray) (off n : Nat) (N : Int) (hN : N = (n : Int)) (w : World) (h : EyeAt w g (eat s off)) (hn : 1 ≤ n) (hn6 : n ≤ 6) (hs : off + n ≤ s.size) (hl : s.size ≤ 100000000000) :
    Calls Tryd.prog 73 #[.pointer (some ⟨g, 0, none⟩), .int .i64 N] w fun e w' => e = .returned (.int .i64 (numAt s off n)) ∧ EyeAt w' g (eat s (off + n)) ∧ Put w w' g := by
  subst hN
  have hq := eye_num g (eat s off) (n : Int) w h (by omega) (by omega) (by rw [eat_size]; omega) (by rw [eat_size]; omega)
  rw [Int.toNat_natCast, eat_eat] at hq
  have e : numOf (List.take n (eat s off).data.toList) = numAt s off n := by rw [eat_list]; rfl
  rw [e] at hq
  exact hq
theorem mark_at (g : Nat) (s : ByteArray) (off : Nat) (w : World) (h : EyeAt w g (eat s off)) (hs : off + 12 ≤ s.size) (hl : s.size ≤ 100000000000) :
    Calls Tryd.prog 75 #[.pointer (some ⟨g, 0, none⟩)] w fun e w' => e = .returned (Mk.val ⟨numAt s off 6, numAt s (off + 6) 6⟩) ∧ EyeAt w' g (eat s (off + 12)) ∧ Put w w' g := by
  have hq := see_mark g (eat s off) w h (by rw [eat_size]; omega) (by rw [eat_size]; omega)
  rw [eat_eat, numAt_eat, numAt_eat, Nat.add_zero] at hq
  exact hq
theorem vec_at (g : Nat) (s : ByteArray) (off : Nat) (w : World) (h : EyeAt w g (eat s off)) (hs : off + 48 ≤ s.size) (hl : s.size ≤ 100000000000) (hg : (seeV (eat s off)).good = true) :
    Calls Tryd.prog 74 #[.pointer (some ⟨g, 0, none⟩)] w fun e w' => e = .returned (seeV (eat s off)).val ∧ EyeAt w' g (eat s (off + 48)) ∧ Put w w' g := by
  have hq := see_vec g (eat s off) w h (by rw [eat_size]; omega) (by rw [eat_size]; omega) hg
  rw [eat_eat] at hq
  exact hq
theorem numAt_def (s : ByteArray) (off n : Nat) : numAt s off n = numOf (List.take n (List.drop off s.data.toList)) := rfl
attribute [local irreducible] numAt seeV eat
theorem body1 (g gm : Nat) (s : ByteArray) (w : World) (he0 : EyeAt w g s) (hx0 : Box w gm Msg.zero.arr 41) (hn : g ≠ gm) (hs : 78 ≤ s.size) (hl : s.size ≤ 100000000000) (hv : (seeV (eat s 4)).good = true) (hk : numAt s 0 1 = 1) :
    Calls Tryd.prog 72 #[.pointer (some ⟨g, 0, none⟩), .pointer (some ⟨gm, 0, none⟩)] w fun e w' => e = .returned (.tuple #[]) ∧ EyeAt w' g (eat s 78) ∧ Box w' gm (⟨numAt s 0 1, numAt s 1 1, numAt s 2 1, numAt s 3 1, ⟨numAt s 52 6, numAt s 58 6⟩, ⟨numAt s 64 6, numAt s 70 6⟩, numAt s 76 2, 0, seeV (eat s 4), ⟨#[]⟩⟩ : Msg).arr 41 ∧ Put2 w w' g gm := by
  have HP0 : Put2 w w g gm := ⟨rfl, rfl, rfl, Nat.le_refl _, fun _ _ _ _ => rfl⟩
  have he00 := he0
  rw [← eat_zero s] at he00
  clear he0
  obtain ⟨w0, rfl⟩ : ∃ w0, w0 = w := ⟨w, rfl⟩
  have he0 := he00
  clear he00
  have b1 : (numAt s 0 1 == 1) = true := by simp [hk]
  have HK := Lib.hid hk
  clear hk
  go_enter Tryd.func72, Tryd.ntmps72
  have HQ := hide (num_at g s 0 1 1 rfl w0 he0 (by omega) (by omega) (by omega) hl)
  go_wp2_with (first | (go_at_call 73; (with_reducible refine (unhide HQ).mono ?_); rintro e w1 ⟨rfl, he1, hp1⟩; clear HQ; refine stop ?_))
  unfold Stop
  have he1 : EyeAt w1 g (eat s 1) := he1
  have hx1 := hx0.put hp1 hn.symm
  have HP1 := HP0.trans (hp1.two gm)
  clear he0 hx0 HP0 hp1
  have HQ := hide (num_at g s 1 1 1 rfl w1 he1 (by omega) (by omega) (by omega) hl)
  go_wp2_with (first | (go_at_call 73; (with_reducible refine (unhide HQ).mono ?_); rintro e w2 ⟨rfl, he2, hp2⟩; clear HQ; refine stop ?_))
  unfold Stop
  have he2 : EyeAt w2 g (eat s 2) := he2
  have hx2 := hx1.put hp2 hn.symm
  have HP2 := HP1.trans (hp2.two gm)
  clear he1 hx1 HP1 hp2
  have HQ := hide (num_at g s 2 1 1 rfl w2 he2 (by omega) (by omega) (by omega) hl)
  go_wp2_with (first | (go_at_call 73; (with_reducible refine (unhide HQ).mono ?_); rintro e w3 ⟨rfl, he3, hp3⟩; clear HQ; refine stop ?_))
  unfold Stop
  have he3 : EyeAt w3 g (eat s 3) := he3
  have hx3 := hx2.put hp3 hn.symm
  have HP3 := HP2.trans (hp3.two gm)
  clear he2 hx2 HP2 hp3
  have HQ := hide (num_at g s 3 1 1 rfl w3 he3 (by omega) (by omega) (by omega) hl)
  go_wp2_with (first | (go_at_call 73; (with_reducible refine (unhide HQ).mono ?_); rintro e w4 ⟨rfl, he4, hp4⟩; clear HQ; refine stop ?_))
  unfold Stop
  have he4 : EyeAt w4 g (eat s 4) := he4
  have hx4 := hx3.put hp4 hn.symm
  have HP4 := HP3.trans (hp4.two gm)
  clear he3 hx3 HP3 hp4
  have HQ := hide (vec_at g s 4 w4 he4 (by omega) hl hv)
  go_wp2_with (first | (go_at_call 74; (with_reducible refine (unhide HQ).mono ?_); rintro e w5 ⟨rfl, he5, hp5⟩; clear HQ; refine stop ?_))
  unfold Stop
  have he5 : EyeAt w5 g (eat s 52) := he5
  have hx5 := hx4.put hp5 hn.symm
  have HP5 := HP4.trans (hp5.two gm)
  clear he4 hx4 HP4 hp5
  go_wp2_with (first | ((with_reducible refine gate0 rfl ?_); refine stop ?_))
  unfold Stop
  refine ev_setAll rfl 41 (.tmp 1) (.tmp 13) rfl rfl (vs := (⟨numAt s 0 1, numAt s 1 1, numAt s 2 1, numAt s 3 1, ⟨0, 0⟩, ⟨0, 0⟩, 0, 0, seeV (eat s 4), ⟨#[]⟩⟩ : Msg).arr) hx5 rfl (oneMsg _) sizeMsg rfl ?_
  intro w6 hx6 hp6
  have he6 : EyeAt w6 g (eat s 52) := Box.put he5 hp6 hn
  have HP6 := HP5.trans (hp6.two' g)
  clear hx5 he5 HP5 hp6
  obtain ⟨c0, c1, c2, c3, c4, c5, c6, c7, c8, c9, c10, c11, c12, c13, c14, c15, c16, c17, c18⟩ := msgCells hx6
  clear c1 c2 c3 c10 c11 c12 c13 c14 c15 c16 c17
  have HQ := hide (mark_at g s 52 w6 he6 (by omega) hl)
  go_wp2_with (first | (go_at_call 75; (with_reducible refine (unhide HQ).mono ?_); rintro e w7 ⟨rfl, he7, hp7⟩; clear HQ; refine stop ?_))
  unfold Stop
  have he7 : EyeAt w7 g (eat s 64) := he7
  have hx7 := hx6.put hp7 hn.symm
  have HP7 := HP6.trans (hp7.two gm)
  clear he6 hx6 HP6 hp7
  have HQ := hide (mark_at g s 64 w7 he7 (by omega) hl)
  go_wp2_with (first | (go_at_call 75; (with_reducible refine (unhide HQ).mono ?_); rintro e w8 ⟨rfl, he8, hp8⟩; clear HQ; refine stop ?_))
  unfold Stop
  have he8 : EyeAt w8 g (eat s 76) := he8
  have hx8 := hx7.put hp8 hn.symm
  have HP8 := HP7.trans (hp8.two gm)
  clear he7 hx7 HP7 hp8
  have HQ := hide (num_at g s 76 2 2 rfl w8 he8 (by omega) (by omega) (by omega) hl)
  go_wp2_with (first | (go_at_call 73; (with_reducible refine (unhide HQ).mono ?_); rintro e w9 ⟨rfl, he9, hp9⟩; clear HQ; refine stop ?_))
  unfold Stop
  have he9 : EyeAt w9 g (eat s 78) := he9
  have hx9 := hx8.put hp9 hn.symm
  have HP9 := HP8.trans (hp9.two gm)
  clear he8 hx8 HP8 hp9
  have hc := hx9.cell
  have hf := hx9.frozen
  go_wp2
  have hs0 := Box.set_ hx9 4 (Value.int .i64 (numAt s 52 6)) (cs' := (⟨numAt s 0 1, numAt s 1 1, numAt s 2 1, numAt s 3 1, ⟨numAt s 52 6, 0⟩, ⟨0, 0⟩, 0, 0, seeV (eat s 4), ⟨#[]⟩⟩ : Msg).arr) rfl
  have hs1 := Box.set_ hs0 5 (Value.int .i64 (numAt s 58 6)) (cs' := (⟨numAt s 0 1, numAt s 1 1, numAt s 2 1, numAt s 3 1, ⟨numAt s 52 6, numAt s 58 6⟩, ⟨0, 0⟩, 0, 0, seeV (eat s 4), ⟨#[]⟩⟩ : Msg).arr) rfl
  have hs2 := Box.set_ hs1 6 (Value.int .i64 (numAt s 64 6)) (cs' := (⟨numAt s 0 1, numAt s 1 1, numAt s 2 1, numAt s 3 1, ⟨numAt s 52 6, numAt s 58 6⟩, ⟨numAt s 64 6, 0⟩, 0, 0, seeV (eat s 4), ⟨#[]⟩⟩ : Msg).arr) rfl
  have hs3 := Box.set_ hs2 7 (Value.int .i64 (numAt s 70 6)) (cs' := (⟨numAt s 0 1, numAt s 1 1, numAt s 2 1, numAt s 3 1, ⟨numAt s 52 6, numAt s 58 6⟩, ⟨numAt s 64 6, numAt s 70 6⟩, 0, 0, seeV (eat s 4), ⟨#[]⟩⟩ : Msg).arr) rfl
  have hs4 := Box.set_ hs3 8 (Value.int .i64 (numAt s 76 2)) (cs' := (⟨numAt s 0 1, numAt s 1 1, numAt s 2 1, numAt s 3 1, ⟨numAt s 52 6, numAt s 58 6⟩, ⟨numAt s 64 6, numAt s 70 6⟩, numAt s 76 2, 0, seeV (eat s 4), ⟨#[]⟩⟩ : Msg).arr) rfl
  have hE : EyeAt (((((w9.setCell ⟨gm, 4, none⟩ (Value.int .i64 (numAt s 52 6))).setCell ⟨gm, 5, none⟩ (Value.int .i64 (numAt s 58 6))).setCell ⟨gm, 6, none⟩ (Value.int .i64 (numAt s 64 6))).setCell ⟨gm, 7, none⟩ (Value.int .i64 (numAt s 70 6))).setCell ⟨gm, 8, none⟩ (Value.int .i64 (numAt s 76 2))) g (eat s 78) := (Box.put (Box.put (Box.put (Box.put (Box.put he9 (Box.setPut _ gm 4 (Value.int .i64 (numAt s 52 6))) hn) (Box.setPut _ gm 5 (Value.int .i64 (numAt s 58 6))) hn) (Box.setPut _ gm 6 (Value.int .i64 (numAt s 64 6))) hn) (Box.setPut _ gm 7 (Value.int .i64 (numAt s 70 6))) hn) (Box.setPut _ gm 8 (Value.int .i64 (numAt s 76 2))) hn)
  have hP := (((((HP9.trans ((Box.setPut _ gm 4 (Value.int .i64 (numAt s 52 6))).two' g)).trans ((Box.setPut _ gm 5 (Value.int .i64 (numAt s 58 6))).two' g)).trans ((Box.setPut _ gm 6 (Value.int .i64 (numAt s 64 6))).two' g)).trans ((Box.setPut _ gm 7 (Value.int .i64 (numAt s 70 6))).two' g)).trans ((Box.setPut _ gm 8 (Value.int .i64 (numAt s 76 2))).two' g))
  go_end0
  exact ⟨rfl, hE, hs4, hP⟩
theorem body2 (g gm : Nat) (s : ByteArray) (w : World) (he0 : EyeAt w g s) (hx0 : Box w gm Msg.zero.arr 41) (hn : g ≠ gm) (n : Nat) (hnn : numAt s 80 2 = n) (hn5 : n ≤ 512) (hs : 82 + n ≤ s.size) (hl : s.size ≤ 100000000000) (hv : (seeV (eat s 4)).good = true) (hk : numAt s 0 1 = 2) :
    Calls Tryd.prog 72 #[.pointer (some ⟨g, 0, none⟩), .pointer (some ⟨gm, 0, none⟩)] w fun e w' => e = .returned (.tuple #[]) ∧ EyeAt w' g (eat s (82 + n)) ∧ Box w' gm (⟨numAt s 0 1, numAt s 1 1, numAt s 2 1, numAt s 3 1, ⟨numAt s 52 6, numAt s 58 6⟩, ⟨numAt s 64 6, numAt s 70 6⟩, numAt s 76 2, numAt s 78 2, seeV (eat s 4), ((eat s 82).extract 0 n)⟩ : Msg).arr 41 ∧ Put2 w w' g gm := by
  have HP0 : Put2 w w g gm := ⟨rfl, rfl, rfl, Nat.le_refl _, fun _ _ _ _ => rfl⟩
  have he00 := he0
  rw [← eat_zero s] at he00
  clear he0
  obtain ⟨w0, rfl⟩ : ∃ w0, w0 = w := ⟨w, rfl⟩
  have he0 := he00
  clear he00
  have b1 : (numAt s 0 1 == 1) = false := by simp [hk]
  have b2 : (numAt s 0 1 == 2) = true := by simp [hk]
  have HK := Lib.hid hk
  clear hk
  have HN := Lib.hid hnn
  clear hnn
  go_enter Tryd.func72, Tryd.ntmps72
  have HQ := hide (num_at g s 0 1 1 rfl w0 he0 (by omega) (by omega) (by omega) hl)
  go_wp2_with (first | (go_at_call 73; (with_reducible refine (unhide HQ).mono ?_); rintro e w1 ⟨rfl, he1, hp1⟩; clear HQ; refine stop ?_))
  unfold Stop
  have he1 : EyeAt w1 g (eat s 1) := he1
  have hx1 := hx0.put hp1 hn.symm
  have HP1 := HP0.trans (hp1.two gm)
  clear he0 hx0 HP0 hp1
  have HQ := hide (num_at g s 1 1 1 rfl w1 he1 (by omega) (by omega) (by omega) hl)
  go_wp2_with (first | (go_at_call 73; (with_reducible refine (unhide HQ).mono ?_); rintro e w2 ⟨rfl, he2, hp2⟩; clear HQ; refine stop ?_))
  unfold Stop
  have he2 : EyeAt w2 g (eat s 2) := he2
  have hx2 := hx1.put hp2 hn.symm
  have HP2 := HP1.trans (hp2.two gm)
  clear he1 hx1 HP1 hp2
  have HQ := hide (num_at g s 2 1 1 rfl w2 he2 (by omega) (by omega) (by omega) hl)
  go_wp2_with (first | (go_at_call 73; (with_reducible refine (unhide HQ).mono ?_); rintro e w3 ⟨rfl, he3, hp3⟩; clear HQ; refine stop ?_))
  unfold Stop
  have he3 : EyeAt w3 g (eat s 3) := he3
  have hx3 := hx2.put hp3 hn.symm
  have HP3 := HP2.trans (hp3.two gm)
  clear he2 hx2 HP2 hp3
  have HQ := hide (num_at g s 3 1 1 rfl w3 he3 (by omega) (by omega) (by omega) hl)
  go_wp2_with (first | (go_at_call 73; (with_reducible refine (unhide HQ).mono ?_); rintro e w4 ⟨rfl, he4, hp4⟩; clear HQ; refine stop ?_))
  unfold Stop
  have he4 : EyeAt w4 g (eat s 4) := he4
  have hx4 := hx3.put hp4 hn.symm
  have HP4 := HP3.trans (hp4.two gm)
  clear he3 hx3 HP3 hp4
  have HQ := hide (vec_at g s 4 w4 he4 (by omega) hl hv)
  go_wp2_with (first | (go_at_call 74; (with_reducible refine (unhide HQ).mono ?_); rintro e w5 ⟨rfl, he5, hp5⟩; clear HQ; refine stop ?_))
  unfold Stop
  have he5 : EyeAt w5 g (eat s 52) := he5
  have hx5 := hx4.put hp5 hn.symm
  have HP5 := HP4.trans (hp5.two gm)
  clear he4 hx4 HP4 hp5
  go_wp2_with (first | ((with_reducible refine gate0 rfl ?_); refine stop ?_))
  unfold Stop
  refine ev_setAll rfl 41 (.tmp 1) (.tmp 13) rfl rfl (vs := (⟨numAt s 0 1, numAt s 1 1, numAt s 2 1, numAt s 3 1, ⟨0, 0⟩, ⟨0, 0⟩, 0, 0, seeV (eat s 4), ⟨#[]⟩⟩ : Msg).arr) hx5 rfl (oneMsg _) sizeMsg rfl ?_
  intro w6 hx6 hp6
  have he6 : EyeAt w6 g (eat s 52) := Box.put he5 hp6 hn
  have HP6 := HP5.trans (hp6.two' g)
  clear hx5 he5 HP5 hp6
  obtain ⟨c0, c1, c2, c3, c4, c5, c6, c7, c8, c9, c10, c11, c12, c13, c14, c15, c16, c17, c18⟩ := msgCells hx6
  clear c1 c2 c3 c10 c11 c12 c13 c14 c15 c16 c17
  have HQ := hide (mark_at g s 52 w6 he6 (by omega) hl)
  go_wp2_with (first | (go_at_call 75; (with_reducible refine (unhide HQ).mono ?_); rintro e w7 ⟨rfl, he7, hp7⟩; clear HQ; refine stop ?_))
  unfold Stop
  have he7 : EyeAt w7 g (eat s 64) := he7
  have hx7 := hx6.put hp7 hn.symm
  have HP7 := HP6.trans (hp7.two gm)
  clear he6 hx6 HP6 hp7
  have HQ := hide (mark_at g s 64 w7 he7 (by omega) hl)
  go_wp2_with (first | (go_at_call 75; (with_reducible refine (unhide HQ).mono ?_); rintro e w8 ⟨rfl, he8, hp8⟩; clear HQ; refine stop ?_))
  unfold Stop
  have he8 : EyeAt w8 g (eat s 76) := he8
  have hx8 := hx7.put hp8 hn.symm
  have HP8 := HP7.trans (hp8.two gm)
  clear he7 hx7 HP7 hp8
  have HQ := hide (num_at g s 76 2 2 rfl w8 he8 (by omega) (by omega) (by omega) hl)
  go_wp2_with (first | (go_at_call 73; (with_reducible refine (unhide HQ).mono ?_); rintro e w9 ⟨rfl, he9, hp9⟩; clear HQ; refine stop ?_))
  unfold Stop
  have he9 : EyeAt w9 g (eat s 78) := he9
  have hx9 := hx8.put hp9 hn.symm
  have HP9 := HP8.trans (hp9.two gm)
  clear he8 hx8 HP8 hp9
  have HQ := hide (num_at g s 78 2 2 rfl w9 he9 (by omega) (by omega) (by omega) hl)
  go_wp2_with (first | (go_at_call 73; (with_reducible refine (unhide HQ).mono ?_); rintro e w10 ⟨rfl, he10, hp10⟩; clear HQ; refine stop ?_))
  unfold Stop
  have he10 : EyeAt w10 g (eat s 80) := he10
  have hx10 := hx9.put hp10 hn.symm
  have HP10 := HP9.trans (hp10.two gm)
  clear he9 hx9 HP9 hp10
  have hc := hx10.cell
  have hf := hx10.frozen
  go_wp2_with (first | (go_at_call 76; refine stop ?_))
  unfold Stop
  clear hc hf
  have hs0 := Box.set_ hx10 4 (Value.int .i64 (numAt s 52 6)) (cs' := (⟨numAt s 0 1, numAt s 1 1, numAt s 2 1, numAt s 3 1, ⟨numAt s 52 6, 0⟩, ⟨0, 0⟩, 0, 0, seeV (eat s 4), ⟨#[]⟩⟩ : Msg).arr) rfl
  have hs1 := Box.set_ hs0 5 (Value.int .i64 (numAt s 58 6)) (cs' := (⟨numAt s 0 1, numAt s 1 1, numAt s 2 1, numAt s 3 1, ⟨numAt s 52 6, numAt s 58 6⟩, ⟨0, 0⟩, 0, 0, seeV (eat s 4), ⟨#[]⟩⟩ : Msg).arr) rfl
  have hs2 := Box.set_ hs1 6 (Value.int .i64 (numAt s 64 6)) (cs' := (⟨numAt s 0 1, numAt s 1 1, numAt s 2 1, numAt s 3 1, ⟨numAt s 52 6, numAt s 58 6⟩, ⟨numAt s 64 6, 0⟩, 0, 0, seeV (eat s 4), ⟨#[]⟩⟩ : Msg).arr) rfl
  have hs3 := Box.set_ hs2 7 (Value.int .i64 (numAt s 70 6)) (cs' := (⟨numAt s 0 1, numAt s 1 1, numAt s 2 1, numAt s 3 1, ⟨numAt s 52 6, numAt s 58 6⟩, ⟨numAt s 64 6, numAt s 70 6⟩, 0, 0, seeV (eat s 4), ⟨#[]⟩⟩ : Msg).arr) rfl
  have hs4 := Box.set_ hs3 8 (Value.int .i64 (numAt s 76 2)) (cs' := (⟨numAt s 0 1, numAt s 1 1, numAt s 2 1, numAt s 3 1, ⟨numAt s 52 6, numAt s 58 6⟩, ⟨numAt s 64 6, numAt s 70 6⟩, numAt s 76 2, 0, seeV (eat s 4), ⟨#[]⟩⟩ : Msg).arr) rfl
  have hs5 := Box.set_ hs4 9 (Value.int .i64 (numAt s 78 2)) (cs' := (⟨numAt s 0 1, numAt s 1 1, numAt s 2 1, numAt s 3 1, ⟨numAt s 52 6, numAt s 58 6⟩, ⟨numAt s 64 6, numAt s 70 6⟩, numAt s 76 2, numAt s 78 2, seeV (eat s 4), ⟨#[]⟩⟩ : Msg).arr) rfl
  have hE : EyeAt ((((((w10.setCell ⟨gm, 4, none⟩ (Value.int .i64 (numAt s 52 6))).setCell ⟨gm, 5, none⟩ (Value.int .i64 (numAt s 58 6))).setCell ⟨gm, 6, none⟩ (Value.int .i64 (numAt s 64 6))).setCell ⟨gm, 7, none⟩ (Value.int .i64 (numAt s 70 6))).setCell ⟨gm, 8, none⟩ (Value.int .i64 (numAt s 76 2))).setCell ⟨gm, 9, none⟩ (Value.int .i64 (numAt s 78 2))) g (eat s 80) := (Box.put (Box.put (Box.put (Box.put (Box.put (Box.put he10 (Box.setPut _ gm 4 (Value.int .i64 (numAt s 52 6))) hn) (Box.setPut _ gm 5 (Value.int .i64 (numAt s 58 6))) hn) (Box.setPut _ gm 6 (Value.int .i64 (numAt s 64 6))) hn) (Box.setPut _ gm 7 (Value.int .i64 (numAt s 70 6))) hn) (Box.setPut _ gm 8 (Value.int .i64 (numAt s 76 2))) hn) (Box.setPut _ gm 9 (Value.int .i64 (numAt s 78 2))) hn)
  have hP := ((((((HP10.trans ((Box.setPut _ gm 4 (Value.int .i64 (numAt s 52 6))).two' g)).trans ((Box.setPut _ gm 5 (Value.int .i64 (numAt s 58 6))).two' g)).trans ((Box.setPut _ gm 6 (Value.int .i64 (numAt s 64 6))).two' g)).trans ((Box.setPut _ gm 7 (Value.int .i64 (numAt s 70 6))).two' g)).trans ((Box.setPut _ gm 8 (Value.int .i64 (numAt s 76 2))).two' g)).trans ((Box.setPut _ gm 9 (Value.int .i64 (numAt s 78 2))).two' g))
  obtain ⟨w20, hw20⟩ : ∃ w20, w20 = ((((((w10.setCell ⟨gm, 4, none⟩ (Value.int .i64 (numAt s 52 6))).setCell ⟨gm, 5, none⟩ (Value.int .i64 (numAt s 58 6))).setCell ⟨gm, 6, none⟩ (Value.int .i64 (numAt s 64 6))).setCell ⟨gm, 7, none⟩ (Value.int .i64 (numAt s 70 6))).setCell ⟨gm, 8, none⟩ (Value.int .i64 (numAt s 76 2))).setCell ⟨gm, 9, none⟩ (Value.int .i64 (numAt s 78 2))) := ⟨_, rfl⟩
  rw [← hw20] at hE hP ⊢
  have hx20 : Box w20 gm (⟨numAt s 0 1, numAt s 1 1, numAt s 2 1, numAt s 3 1, ⟨numAt s 52 6, numAt s 58 6⟩, ⟨numAt s 64 6, numAt s 70 6⟩, numAt s 76 2, numAt s 78 2, seeV (eat s 4), ⟨#[]⟩⟩ : Msg).arr 41 := by rw [hw20]; exact hs5
  clear hw20 hs0 hs1 hs2 hs3 hs4 hs5
  have ht := eye_text g (eat s 80) 512 n w20 hE (by omega) (by rw [← HN.out, eat_list, numAt_def]) (by rw [eat_size]; omega) (by rw [eat_size]; omega)
  rw [eat_eat, eat_eat, show 80 + 2 + n = 82 + n from by omega] at ht
  have HT := hide ht
  clear ht
  refine (unhide HT).mono ?_
  rintro e w21 ⟨rfl, he21, hp21⟩
  clear HT
  have hx21 := hx20.put hp21 hn.symm
  have HP21 := hP.trans (hp21.two gm)
  have hc := hx21.cell
  have hf := hx21.frozen
  go_wp2
  have hs := Box.set_ hx21 18 (.string ((eat s 82).extract 0 n)) (cs' := (⟨numAt s 0 1, numAt s 1 1, numAt s 2 1, numAt s 3 1, ⟨numAt s 52 6, numAt s 58 6⟩, ⟨numAt s 64 6, numAt s 70 6⟩, numAt s 76 2, numAt s 78 2, seeV (eat s 4), ((eat s 82).extract 0 n)⟩ : Msg).arr) rfl
  go_end0
  exact ⟨rfl, Box.put he21 (Box.setPut _ gm 18 _) hn, hs, HP21.trans ((Box.setPut _ gm 18 _).two' g)⟩
theorem body4 (g gm : Nat) (s : ByteArray) (w : World) (he0 : EyeAt w g s) (hx0 : Box w gm Msg.zero.arr 41) (hn : g ≠ gm) (hs : 64 ≤ s.size) (hl : s.size ≤ 100000000000) (hv : (seeV (eat s 4)).good = true) (hk : numAt s 0 1 = 4) :
    Calls Tryd.prog 72 #[.pointer (some ⟨g, 0, none⟩), .pointer (some ⟨gm, 0, none⟩)] w fun e w' => e = .returned (.tuple #[]) ∧ EyeAt w' g (eat s 64) ∧ Box w' gm (⟨numAt s 0 1, numAt s 1 1, numAt s 2 1, numAt s 3 1, ⟨0, 0⟩, ⟨numAt s 52 6, numAt s 58 6⟩, 0, 0, seeV (eat s 4), ⟨#[]⟩⟩ : Msg).arr 41 ∧ Put2 w w' g gm := by
  have HP0 : Put2 w w g gm := ⟨rfl, rfl, rfl, Nat.le_refl _, fun _ _ _ _ => rfl⟩
  have he00 := he0
  rw [← eat_zero s] at he00
  clear he0
  obtain ⟨w0, rfl⟩ : ∃ w0, w0 = w := ⟨w, rfl⟩
  have he0 := he00
  clear he00
  have b1 : (numAt s 0 1 == 1) = false := by simp [hk]
  have b2 : (numAt s 0 1 == 2) = false := by simp [hk]
  have b4 : (numAt s 0 1 == 4) = true := by simp [hk]
  have HK := Lib.hid hk
  clear hk
  go_enter Tryd.func72, Tryd.ntmps72
  have HQ := hide (num_at g s 0 1 1 rfl w0 he0 (by omega) (by omega) (by omega) hl)
  go_wp2_with (first | (go_at_call 73; (with_reducible refine (unhide HQ).mono ?_); rintro e w1 ⟨rfl, he1, hp1⟩; clear HQ; refine stop ?_))
  unfold Stop
  have he1 : EyeAt w1 g (eat s 1) := he1
  have hx1 := hx0.put hp1 hn.symm
  have HP1 := HP0.trans (hp1.two gm)
  clear he0 hx0 HP0 hp1
  have HQ := hide (num_at g s 1 1 1 rfl w1 he1 (by omega) (by omega) (by omega) hl)
  go_wp2_with (first | (go_at_call 73; (with_reducible refine (unhide HQ).mono ?_); rintro e w2 ⟨rfl, he2, hp2⟩; clear HQ; refine stop ?_))
  unfold Stop
  have he2 : EyeAt w2 g (eat s 2) := he2
  have hx2 := hx1.put hp2 hn.symm
  have HP2 := HP1.trans (hp2.two gm)
  clear he1 hx1 HP1 hp2
  have HQ := hide (num_at g s 2 1 1 rfl w2 he2 (by omega) (by omega) (by omega) hl)
  go_wp2_with (first | (go_at_call 73; (with_reducible refine (unhide HQ).mono ?_); rintro e w3 ⟨rfl, he3, hp3⟩; clear HQ; refine stop ?_))
  unfold Stop
  have he3 : EyeAt w3 g (eat s 3) := he3
  have hx3 := hx2.put hp3 hn.symm
  have HP3 := HP2.trans (hp3.two gm)
  clear he2 hx2 HP2 hp3
  have HQ := hide (num_at g s 3 1 1 rfl w3 he3 (by omega) (by omega) (by omega) hl)
  go_wp2_with (first | (go_at_call 73; (with_reducible refine (unhide HQ).mono ?_); rintro e w4 ⟨rfl, he4, hp4⟩; clear HQ; refine stop ?_))
  unfold Stop
  have he4 : EyeAt w4 g (eat s 4) := he4
  have hx4 := hx3.put hp4 hn.symm
  have HP4 := HP3.trans (hp4.two gm)
  clear he3 hx3 HP3 hp4
  have HQ := hide (vec_at g s 4 w4 he4 (by omega) hl hv)
  go_wp2_with (first | (go_at_call 74; (with_reducible refine (unhide HQ).mono ?_); rintro e w5 ⟨rfl, he5, hp5⟩; clear HQ; refine stop ?_))
  unfold Stop
  have he5 : EyeAt w5 g (eat s 52) := he5
  have hx5 := hx4.put hp5 hn.symm
  have HP5 := HP4.trans (hp5.two gm)
  clear he4 hx4 HP4 hp5
  go_wp2_with (first | ((with_reducible refine gate0 rfl ?_); refine stop ?_))
  unfold Stop
  refine ev_setAll rfl 41 (.tmp 1) (.tmp 13) rfl rfl (vs := (⟨numAt s 0 1, numAt s 1 1, numAt s 2 1, numAt s 3 1, ⟨0, 0⟩, ⟨0, 0⟩, 0, 0, seeV (eat s 4), ⟨#[]⟩⟩ : Msg).arr) hx5 rfl (oneMsg _) sizeMsg rfl ?_
  intro w6 hx6 hp6
  have he6 : EyeAt w6 g (eat s 52) := Box.put he5 hp6 hn
  have HP6 := HP5.trans (hp6.two' g)
  clear hx5 he5 HP5 hp6
  obtain ⟨c0, c1, c2, c3, c4, c5, c6, c7, c8, c9, c10, c11, c12, c13, c14, c15, c16, c17, c18⟩ := msgCells hx6
  clear c1 c2 c3 c10 c11 c12 c13 c14 c15 c16 c17
  have HQ := hide (mark_at g s 52 w6 he6 (by omega) hl)
  go_wp2_with (first | (go_at_call 75; (with_reducible refine (unhide HQ).mono ?_); rintro e w7 ⟨rfl, he7, hp7⟩; clear HQ; refine stop ?_))
  unfold Stop
  have he7 : EyeAt w7 g (eat s 64) := he7
  have hx7 := hx6.put hp7 hn.symm
  have HP7 := HP6.trans (hp7.two gm)
  clear he6 hx6 HP6 hp7
  have hc := hx7.cell
  have hf := hx7.frozen
  go_wp2
  have hs0 := Box.set_ hx7 6 (Value.int .i64 (numAt s 52 6)) (cs' := (⟨numAt s 0 1, numAt s 1 1, numAt s 2 1, numAt s 3 1, ⟨0, 0⟩, ⟨numAt s 52 6, 0⟩, 0, 0, seeV (eat s 4), ⟨#[]⟩⟩ : Msg).arr) rfl
  have hs1 := Box.set_ hs0 7 (Value.int .i64 (numAt s 58 6)) (cs' := (⟨numAt s 0 1, numAt s 1 1, numAt s 2 1, numAt s 3 1, ⟨0, 0⟩, ⟨numAt s 52 6, numAt s 58 6⟩, 0, 0, seeV (eat s 4), ⟨#[]⟩⟩ : Msg).arr) rfl
  have hE : EyeAt ((w7.setCell ⟨gm, 6, none⟩ (Value.int .i64 (numAt s 52 6))).setCell ⟨gm, 7, none⟩ (Value.int .i64 (numAt s 58 6))) g (eat s 64) := (Box.put (Box.put he7 (Box.setPut _ gm 6 (Value.int .i64 (numAt s 52 6))) hn) (Box.setPut _ gm 7 (Value.int .i64 (numAt s 58 6))) hn)
  have hP := ((HP7.trans ((Box.setPut _ gm 6 (Value.int .i64 (numAt s 52 6))).two' g)).trans ((Box.setPut _ gm 7 (Value.int .i64 (numAt s 58 6))).two' g))
  go_end0
  exact ⟨rfl, hE, hs1, hP⟩
theorem body3 (g gm : Nat) (s : ByteArray) (w : World) (he0 : EyeAt w g s) (hx0 : Box w gm Msg.zero.arr 41) (hn : g ≠ gm) (hs : 52 ≤ s.size) (hl : s.size ≤ 100000000000) (hv : (seeV (eat s 4)).good = true) (hk : numAt s 0 1 = 3) :
    Calls Tryd.prog 72 #[.pointer (some ⟨g, 0, none⟩), .pointer (some ⟨gm, 0, none⟩)] w fun e w' => e = .returned (.tuple #[]) ∧ EyeAt w' g (eat s 52) ∧ Box w' gm (⟨numAt s 0 1, numAt s 1 1, numAt s 2 1, numAt s 3 1, ⟨0, 0⟩, ⟨0, 0⟩, 0, 0, seeV (eat s 4), ⟨#[]⟩⟩ : Msg).arr 41 ∧ Put2 w w' g gm := by
  have HP0 : Put2 w w g gm := ⟨rfl, rfl, rfl, Nat.le_refl _, fun _ _ _ _ => rfl⟩
  have he00 := he0
  rw [← eat_zero s] at he00
  clear he0
  obtain ⟨w0, rfl⟩ : ∃ w0, w0 = w := ⟨w, rfl⟩
  have he0 := he00
  clear he00
  have b1 : (numAt s 0 1 == 1) = false := by simp [hk]
  have b2 : (numAt s 0 1 == 2) = false := by simp [hk]
  have b4 : (numAt s 0 1 == 4) = false := by simp [hk]
  have HK := Lib.hid hk
  clear hk
  go_enter Tryd.func72, Tryd.ntmps72
  have HQ := hide (num_at g s 0 1 1 rfl w0 he0 (by omega) (by omega) (by omega) hl)
  go_wp2_with (first | (go_at_call 73; (with_reducible refine (unhide HQ).mono ?_); rintro e w1 ⟨rfl, he1, hp1⟩; clear HQ; refine stop ?_))
  unfold Stop
  have he1 : EyeAt w1 g (eat s 1) := he1
  have hx1 := hx0.put hp1 hn.symm
  have HP1 := HP0.trans (hp1.two gm)
  clear he0 hx0 HP0 hp1
  have HQ := hide (num_at g s 1 1 1 rfl w1 he1 (by omega) (by omega) (by omega) hl)
  go_wp2_with (first | (go_at_call 73; (with_reducible refine (unhide HQ).mono ?_); rintro e w2 ⟨rfl, he2, hp2⟩; clear HQ; refine stop ?_))
  unfold Stop
  have he2 : EyeAt w2 g (eat s 2) := he2
  have hx2 := hx1.put hp2 hn.symm
  have HP2 := HP1.trans (hp2.two gm)
  clear he1 hx1 HP1 hp2
  have HQ := hide (num_at g s 2 1 1 rfl w2 he2 (by omega) (by omega) (by omega) hl)
  go_wp2_with (first | (go_at_call 73; (with_reducible refine (unhide HQ).mono ?_); rintro e w3 ⟨rfl, he3, hp3⟩; clear HQ; refine stop ?_))
  unfold Stop
  have he3 : EyeAt w3 g (eat s 3) := he3
  have hx3 := hx2.put hp3 hn.symm
  have HP3 := HP2.trans (hp3.two gm)
  clear he2 hx2 HP2 hp3
  have HQ := hide (num_at g s 3 1 1 rfl w3 he3 (by omega) (by omega) (by omega) hl)
  go_wp2_with (first | (go_at_call 73; (with_reducible refine (unhide HQ).mono ?_); rintro e w4 ⟨rfl, he4, hp4⟩; clear HQ; refine stop ?_))
  unfold Stop
  have he4 : EyeAt w4 g (eat s 4) := he4
  have hx4 := hx3.put hp4 hn.symm
  have HP4 := HP3.trans (hp4.two gm)
  clear he3 hx3 HP3 hp4
  have HQ := hide (vec_at g s 4 w4 he4 (by omega) hl hv)
  go_wp2_with (first | (go_at_call 74; (with_reducible refine (unhide HQ).mono ?_); rintro e w5 ⟨rfl, he5, hp5⟩; clear HQ; refine stop ?_))
  unfold Stop
  have he5 : EyeAt w5 g (eat s 52) := he5
  have hx5 := hx4.put hp5 hn.symm
  have HP5 := HP4.trans (hp5.two gm)
  clear he4 hx4 HP4 hp5
  go_wp2_with (first | ((with_reducible refine gate0 rfl ?_); refine stop ?_))
  unfold Stop
  refine ev_setAll rfl 41 (.tmp 1) (.tmp 13) rfl rfl (vs := (⟨numAt s 0 1, numAt s 1 1, numAt s 2 1, numAt s 3 1, ⟨0, 0⟩, ⟨0, 0⟩, 0, 0, seeV (eat s 4), ⟨#[]⟩⟩ : Msg).arr) hx5 rfl (oneMsg _) sizeMsg rfl ?_
  intro w6 hx6 hp6
  have he6 : EyeAt w6 g (eat s 52) := Box.put he5 hp6 hn
  have HP6 := HP5.trans (hp6.two' g)
  clear hx5 he5 HP5 hp6
  obtain ⟨c0, c1, c2, c3, c4, c5, c6, c7, c8, c9, c10, c11, c12, c13, c14, c15, c16, c17, c18⟩ := msgCells hx6
  clear c1 c2 c3 c10 c11 c12 c13 c14 c15 c16 c17
  go_wp2
  go_end0
  exact ⟨rfl, he6, hx6, HP6⟩
end Go.Proofs.YtbkffeabikjnhaaDoor
