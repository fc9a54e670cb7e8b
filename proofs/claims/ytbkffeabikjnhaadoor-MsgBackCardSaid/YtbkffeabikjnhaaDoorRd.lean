/- The reader: what ends it; each look as an Option. -/
import Derived.Test.YtbkffeabikjnhaaDoorWire
import Derived.Test.YtbkffeabikjnhaaDoorSeal
namespace Go.Proofs.YtbkffeabikjnhaaDoor
open Go.RowKit

/-- What is thrown. -/
def flt (c : Int) : List PanicEntry := [{ v := .iface 145 (.agg #[.int .i64 c]), recovered := false }]
theorem eye_fail (g : Nat) (s : ByteArray) (c : Int) (w : World) (h : EyeAt w g s) :
    Calls Tryd.prog 108 #[.pointer (some ⟨g, 0, none⟩), .int .i64 c] w fun e w' => e = .panicked (flt c) ∧ w = w' := by
  go_enter Tryd.func108, Tryd.ntmps108
  go_wp2_with (go_at_call 109; (with_reducible refine (eye_dead g s _ h).mono ?_); rintro e w' ⟨rfl, rfl⟩)
  exact ⟨rfl, rfl, rfl⟩
theorem eye_rawNo (g : Nat) (s : ByteArray) (n : Nat) (w : World) (h : EyeAt w g s) (hs : s.size < n) (hl : s.size ≤ 100000000000) :
    Calls Tryd.prog 110 #[.pointer (some ⟨g, 0, none⟩), .int .i64 n] w fun e w' => e = .panicked (flt 201) ∧ w = w' := by
  have c0 := h.c0
  have hf := Box.frozen h 0
  have hd : decide ((n : Int) < 0) = false := by simp
  have hge : decide ((s.size : Int) < (n : Int)) = true := by simp; omega
  go_enter Tryd.func110, Tryd.ntmps110
  go_wp2_with (first
    | (go_at_call 109; (with_reducible refine (eye_dead g s _ h).mono ?_); rintro e w' ⟨rfl, rfl⟩)
    | (go_at_call 108; (with_reducible refine (eye_fail g s 201 _ h).mono ?_); rintro e w' ⟨rfl, rfl⟩))
  exact ⟨rfl, rfl, rfl⟩
theorem eye_numNo (g : Nat) (s : ByteArray) (n : Nat) (w : World) (h : EyeAt w g s) (hn : 1 ≤ n) (hn6 : n ≤ 6) (hs : s.size < n) (hl : s.size ≤ 100000000000) :
    Calls Tryd.prog 73 #[.pointer (some ⟨g, 0, none⟩), .int .i64 n] w fun e w' => e = .panicked (flt 201) ∧ w = w' := by
  have hd1 : decide ((n : Int) ≤ 8) = true := by simp; omega
  have hd2 : decide ((1 : Int) ≤ n) = true := by simp; omega
  go_enter Tryd.func73, Tryd.ntmps73
  go_wp2_with (first
    | (go_at_call 109; (with_reducible refine (eye_dead g s _ h).mono ?_); rintro e w' ⟨rfl, rfl⟩)
    | (go_at_call 104; (with_reducible refine (wide_any _ _).mono ?_); rintro e w' ⟨rfl, rfl⟩)
    | (go_at_call 110; have hq := eye_rawNo g s n w h hs hl; (with_reducible refine hq.mono ?_); rintro e w1 ⟨rfl, rfl⟩; clear hq))
  exact ⟨rfl, rfl, rfl⟩
/-- The next n bytes as a number, and what is left. -/
def num? (n : Nat) (s : ByteArray) : Option (Int × ByteArray) := if n ≤ s.size then some (numOf (s.data.toList.take n), eat s n) else none
def text? (most : Int) (s : ByteArray) : Option (ByteArray × ByteArray) :=
  (num? 2 s).bind fun p => if most < p.1 then none else if p.1.toNat ≤ p.2.size then some (p.2.extract 0 p.1.toNat, eat p.2 p.1.toNat) else none
/-- How a look at an eye ends. -/
def Ans {α : Type} (mk : α → Value) (r : Option (α × ByteArray)) (g : Nat) (w : World) (e : Ending) (w' : World) : Prop :=
  match r with
  | some (x, s') => e = .returned (mk x) ∧ EyeAt w' g s' ∧ Put w w' g
  | none => (∃ c, c ≠ 0 ∧ e = .panicked (flt c)) ∧ (∃ s', EyeAt w' g s') ∧ Put w w' g
theorem Put.refl (w : World) (g : Nat) : Put w w g := ⟨rfl, rfl, rfl, Nat.le_refl _, fun _ _ _ => rfl⟩
theorem eye_Num (g : Nat) (s : ByteArray) (n : Nat) (w : World) (h : EyeAt w g s) (hn : 1 ≤ n) (hn6 : n ≤ 6) (hl : s.size ≤ 100000000000) :
    Calls Tryd.prog 73 #[.pointer (some ⟨g, 0, none⟩), .int .i64 n] w (Ans (.int .i64) (num? n s) g w) := by
  unfold num?
  by_cases hs : n ≤ s.size
  · rw [if_pos hs]
    refine (eye_num g s n w h (by omega) (by omega) (by omega) hl).mono fun e w' ⟨he, h1, h2⟩ => ?_
    rw [Int.toNat_natCast] at he h1
    exact ⟨he, h1, h2⟩
  · rw [if_neg hs]
    exact (eye_numNo g s n w h hn hn6 (by omega) hl).mono fun e w' ⟨he, h1⟩ => ⟨⟨201, by decide, he⟩, ⟨s, h1 ▸ h⟩, h1 ▸ Put.refl _ _⟩
theorem eye_Num1 (g : Nat) (s : ByteArray) (w : World) (h : EyeAt w g s) (hl : s.size ≤ 100000000000) :
    Calls Tryd.prog 73 #[.pointer (some ⟨g, 0, none⟩), .int .i64 1] w (Ans (.int .i64) (num? 1 s) g w) := eye_Num g s 1 w h (by omega) (by omega) hl
theorem eye_Num2 (g : Nat) (s : ByteArray) (w : World) (h : EyeAt w g s) (hl : s.size ≤ 100000000000) :
    Calls Tryd.prog 73 #[.pointer (some ⟨g, 0, none⟩), .int .i64 2] w (Ans (.int .i64) (num? 2 s) g w) := eye_Num g s 2 w h (by omega) (by omega) hl
theorem eye_Num6 (g : Nat) (s : ByteArray) (w : World) (h : EyeAt w g s) (hl : s.size ≤ 100000000000) :
    Calls Tryd.prog 73 #[.pointer (some ⟨g, 0, none⟩), .int .i64 6] w (Ans (.int .i64) (num? 6 s) g w) := eye_Num g s 6 w h (by omega) (by omega) hl
theorem numOf_lt2 (l : List UInt8) (h : l.length ≤ 2) : numOf l < 65536 := by
  have hb := (numOf_bound l).2
  have h2 : l.length = 0 ∨ l.length = 1 ∨ l.length = 2 := by omega
  rcases h2 with h | h | h <;> (rw [h] at hb; simp at hb; omega)
theorem eye_Text (g : Nat) (s : ByteArray) (most : Int) (w : World) (h : EyeAt w g s) (hl : s.size ≤ 100000000000) :
    Calls Tryd.prog 76 #[.pointer (some ⟨g, 0, none⟩), .int .i64 most] w (Ans .string (text? most s) g w) := by
  by_cases h2 : 2 ≤ s.size
  · have hx := numOf_bound (s.data.toList.take 2)
    have hx2 := numOf_lt2 (s.data.toList.take 2) (by rw [List.length_take]; omega)
    obtain ⟨n, hn⟩ := Int.eq_ofNat_of_zero_le hx.1
    have hs2 : (eat s 2).size = s.size - 2 := by unfold eat; rw [ByteArray.size_extract]; omega
    have hr : num? 2 s = some ((n : Int), eat s 2) := by unfold num?; rw [if_pos h2, hn]
    by_cases hm : most < n
    · have hd : decide (most < (n : Int)) = true := by simpa using hm
      have ht : text? most s = none := by unfold text?; rw [hr]; simp [hm]
      rw [ht]
      have H1 := hide (eye_Num2 g s w h hl)
      rw [hr] at H1
      clear ht hr hx hx2 hn
      go_enter Tryd.func76, Tryd.ntmps76
      go_wp2_with (first
        | (go_at_call 73; (with_reducible refine (unhide H1).mono ?_); rintro e w1 ⟨rfl, h1, hp1⟩)
        | (go_at_call 108; (with_reducible refine (eye_fail g (eat s 2) 203 _ h1).mono ?_); rintro e w' ⟨rfl, rfl⟩))
      exact ⟨rfl, ⟨203, by decide, rfl⟩, ⟨_, h1⟩, hp1⟩
    · by_cases hf : n ≤ s.size - 2
      · have ht : text? most s = some ((eat s 2).extract 0 n, eat (eat s 2) n) := by unfold text?; rw [hr]; simp [hm, hs2, hf]
        rw [ht]
        exact eye_text g s most n w h (by omega) hn (by omega) hl
      · have hd : decide (most < (n : Int)) = false := by simp; omega
        have ht : text? most s = none := by unfold text?; rw [hr]; simp [hm, hs2, hf]
        rw [ht]
        have H1 := hide (eye_Num2 g s w h hl)
        rw [hr] at H1
        clear ht hr hx hx2 hn hm
        go_enter Tryd.func76, Tryd.ntmps76
        go_wp2_with (first
          | (go_at_call 73; (with_reducible refine (unhide H1).mono ?_); rintro e w1 ⟨rfl, h1, hp1⟩)
          | (go_at_call 110; have hq := eye_rawNo g (eat s 2) n w1 h1 (by omega) (by omega); (with_reducible refine hq.mono ?_); rintro e w2 ⟨rfl, rfl⟩; clear hq))
        exact ⟨rfl, ⟨201, by decide, rfl⟩, ⟨_, h1⟩, hp1⟩
  · have hr : num? 2 s = none := by unfold num?; rw [if_neg h2]
    have ht : text? most s = none := by unfold text?; rw [hr]; rfl
    rw [ht]
    have H1 := hide (eye_Num2 g s w h hl)
    rw [hr] at H1
    clear ht hr
    go_enter Tryd.func76, Tryd.ntmps76
    go_wp2_with (go_at_call 73; (with_reducible refine (unhide H1).mono ?_); rintro e w1 ⟨⟨c, hc, rfl⟩, h1, hp1⟩)
    exact ⟨rfl, ⟨c, hc, rfl⟩, h1, hp1⟩
end Go.Proofs.YtbkffeabikjnhaaDoor
