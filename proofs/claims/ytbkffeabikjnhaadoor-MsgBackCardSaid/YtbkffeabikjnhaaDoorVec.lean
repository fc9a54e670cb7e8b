/- Vectors: plain data and contracts. -/
import Derived.Test.YtbkffeabikjnhaaDoorProg
import Derived.Test.YtbkffeabikjnhaaDoorOct
namespace Go.Proofs.YtbkffeabikjnhaaDoor
open Go.RowKit

structure V8 where
  (a0 a1 a2 a3 a4 a5 a6 a7 : Int)
  deriving DecidableEq
namespace V8
def list (v : V8) : List Int := [v.a0, v.a1, v.a2, v.a3, v.a4, v.a5, v.a6, v.a7]
def get (v : V8) (j : Nat) : Int := v.list.getD j 0
abbrev val (v : V8) : Value := .agg #[.int .i64 v.a0, .int .i64 v.a1, .int .i64 v.a2, .int .i64 v.a3, .int .i64 v.a4, .int .i64 v.a5, .int .i64 v.a6, .int .i64 v.a7]
def okN (n : Int) : Bool := decide (0 ≤ n ∧ n ≤ 1099511627776)
def good (v : V8) : Bool := v.list.all okN
theorem list_length (v : V8) : v.list.length = 8 := rfl
theorem take_succ (v : V8) (j : Nat) (h : j < 8) : v.list.take (j + 1) = v.list.take j ++ [v.get j] := by
  rw [List.take_succ_eq_append_getElem (by rw [list_length]; exact h)]
  congr 2
  unfold get
  rw [List.getD_eq_getElem?_getD, List.getElem?_eq_getElem (by rw [list_length]; exact h)]
  rfl
theorem take_all (v : V8) : v.list.take 8 = v.list := rfl
end V8

theorem idx8 (v : V8) (j : Nat) (hj : j < 8) : ∀ w, (Instr.index 25 v.val (.int .i64 (j : Int))).run Tryd.prog w = .ok (.int .i64 (v.get j)) w := by
  have h : j = 0 ∨ j = 1 ∨ j = 2 ∨ j = 3 ∨ j = 4 ∨ j = 5 ∨ j = 6 ∨ j = 7 := by omega
  rcases h with rfl | rfl | rfl | rfl | rfl | rfl | rfl | rfl <;> intro w <;> kernel_rfl

theorem V8.cell8 (v : V8) (w : World) (t : TypeId) (j : Nat) (hj : j < 8) : (w.alloc (.cells #[.int .i64 v.a0, .int .i64 v.a1, .int .i64 v.a2, .int .i64 v.a3, .int .i64 v.a4, .int .i64 v.a5, .int .i64 v.a6, .int .i64 v.a7] t)).cell? ⟨w.heap.size, j, none⟩ = some (.int .i64 (v.get j)) := by
  rw [World.cell?_alloc_new]
  have h : j = 0 ∨ j = 1 ∨ j = 2 ∨ j = 3 ∨ j = 4 ∨ j = 5 ∨ j = 6 ∨ j = 7 := by omega
  rcases h with rfl | rfl | rfl | rfl | rfl | rfl | rfl | rfl <;> rfl
theorem V8.all_snoc (v : V8) (j : Nat) (h : j < 8) (ha : (v.list.take j).all V8.okN = true) (hn : ¬ v.get j < 0) (hn2 : ¬ v.get j > 1099511627776) : (v.list.take (j + 1)).all V8.okN = true := by
  rw [v.take_succ j h, List.all_append, ha]
  simp [V8.okN]; omega
theorem V8.not_good (v : V8) (j : Nat) (h : j < 8) (hn : v.get j < 0 ∨ v.get j > 1099511627776) : v.good = false := by
  have h1 : V8.okN (v.get j) = false := by simp [V8.okN]; omega
  have h2 : v.get j ∈ v.list := by
    unfold V8.get
    rw [List.getD_eq_getElem?_getD, List.getElem?_eq_getElem (by rw [V8.list_length]; exact h)]
    exact List.getElem_mem _
  unfold V8.good
  rw [List.all_eq_false]
  exact ⟨_, h2, by simp [h1]⟩

theorem vec_good (v : V8) (w : World) :
    Calls Tryd.prog 49 #[v.val] w fun e w' => e = .returned (.bool v.good) ∧ Below w.heap.size w w' := by
  go_enter Tryd.func49, Tryd.ntmps49
  go_wp2
  go_loop [4, 6] (fun n i => ∃ (j : Nat), j ≤ 8 ∧ i = .int .i64 j ∧ (v.list.take j).all V8.okN = true) (fun _ i => 8 - (intOf i).toNat)
  case atStart => exact ⟨0, by omega, rfl, by simp⟩
  case round =>
    obtain ⟨j, hj, rfl, hall⟩ := hrel
    have HA := Lib.hid hall
    clear hall
    by_cases hlt : j < 8
    · have hi := idx8 v j hlt
      have HS := fun h1 h2 => V8.all_snoc v j hlt HA.out h1 h2
      have HF := V8.not_good v j hlt
      have HS' := Lib.hid HS
      have HF' := Lib.hid HF
      clear HS HF
      generalize v.get j = n at hi HS' HF'
      by_cases hn : n < 0
      · go_wp2
        go_ret
        exact ⟨by rw [HF'.out (.inl hn)]; rfl, bl_alloc (Below.refl _ _) _⟩
      · by_cases hn2 : n > 1099511627776
        · go_wp2
          go_ret
          exact ⟨by rw [HF'.out (.inr hn2)]; rfl, bl_alloc (Below.refl _ _) _⟩
        · have HT := Lib.hid (HS'.out hn hn2)
          clear HS' HF'
          go_wp2
          go_round
          case rel => exact ⟨j + 1, by omega, by go_num, HT.out⟩
          case measure => simp [intOf]; omega
    · obtain rfl : j = 8 := by omega
      go_wp2
      go_ret
      exact ⟨by have h := HA.out; rw [v.take_all] at h; unfold V8.good; rw [h]; rfl, bl_alloc (Below.refl _ _) _⟩

theorem ref_good (v : V8) (w : World) :
    Calls Tryd.prog 52 #[v.val] w fun e w' => e = .returned (.bool v.good) ∧ Below w.heap.size w w' := by
  go_enter Tryd.func52, Tryd.ntmps52
  go_wp2
  go_loop [3, 4] (fun n i => ∃ (j : Nat), j ≤ 8 ∧ i = .int .i64 j ∧ (v.list.take j).all V8.okN = true) (fun _ i => 8 - (intOf i).toNat)
  case atStart => exact ⟨0, by omega, rfl, by simp⟩
  case round =>
    obtain ⟨j, hj, rfl, hall⟩ := hrel
    have HA := Lib.hid hall
    clear hall
    by_cases hlt : j < 8
    · have hi := v.cell8 w 25 j hlt
      have HS := fun h1 h2 => V8.all_snoc v j hlt HA.out h1 h2
      have HF := V8.not_good v j hlt
      have HS' := Lib.hid HS
      have HF' := Lib.hid HF
      clear HS HF
      generalize v.get j = n at hi HS' HF'
      by_cases hn : n < 0
      · go_wp2
        go_ret
        exact ⟨by rw [HF'.out (.inl hn)]; rfl, bl_alloc (Below.refl _ _) _⟩
      · by_cases hn2 : n > 1099511627776
        · go_wp2
          go_ret
          exact ⟨by rw [HF'.out (.inr hn2)]; rfl, bl_alloc (Below.refl _ _) _⟩
        · have HT := Lib.hid (HS'.out hn hn2)
          clear HS' HF'
          go_wp2
          go_round
          case rel => exact ⟨j + 1, by omega, by go_num, HT.out⟩
          case measure => simp [intOf]; omega
    · obtain rfl : j = 8 := by omega
      go_wp2
      go_ret
      exact ⟨by have h := HA.out; rw [v.take_all] at h; unfold V8.good; rw [h]; rfl, bl_alloc (Below.refl _ _) _⟩

def V8.bytes (v : V8) : List UInt8 := v.list.flatMap fun n => putN n 6
theorem V8.bytes_snoc (v : V8) (j : Nat) (h : j < 8) : (v.list.take (j + 1)).flatMap (fun n => putN n 6) = (v.list.take j).flatMap (fun n => putN n 6) ++ putN (v.get j) 6 := by
  rw [v.take_succ j h]; simp
theorem V8.flat_len (v : V8) (j : Nat) : ((v.list.take j).flatMap (fun n => putN n 6)).length ≤ 48 := by
  have : ∀ l : List Int, (l.flatMap (fun n => putN n 6)).length = 6 * l.length := by
    intro l
    induction l with
    | nil => rfl
    | cons a l ih => simp only [List.flatMap_cons, List.length_append, ih, putN_length, List.length_cons]; omega
  rw [this]
  have := List.length_take_le j v.list
  have := List.length_take_le' j v.list
  rw [v.list_length] at this
  omega

theorem vec_put (v : V8) (b : Value) (xs : List UInt8) (w : World) (hr : encB.R w b xs) (hl : xs.length ≤ 100000000) :
    Calls Tryd.prog 61 #[b, v.val] w fun e w' => ∃ v', e = .returned v' ∧ encB.R w' v' (xs ++ v.bytes) ∧ Below w.heap.size w w' := by
  go_enter Tryd.func61, Tryd.ntmps61
  go_wp2
  go_loopw [0, 6, 8] (fun o n i wr => ∃ (j : Nat), j ≤ 8 ∧ i = .int .i64 j ∧ encB.R wr o (xs ++ (v.list.take j).flatMap (fun n => putN n 6)) ∧ Below w.heap.size w wr) (fun _ _ i _ => 8 - (intOf i).toNat)
  case atStart => exact ⟨0, by omega, rfl, by simpa using hr.below (bl_alloc (Below.refl _ _) _), bl_alloc (Below.refl _ _) _⟩
  case round =>
    obtain ⟨j, hj, rfl, hr2, hb2⟩ := hrel
    by_cases hlt : j < 8
    · have hi := idx8 v j hlt
      have HS := Lib.hid (v.bytes_snoc j hlt)
      have hlen : (xs ++ (v.list.take j).flatMap (fun n => putN n 6)).length ≤ 1000000000 := by rw [List.length_append]; have := v.flat_len j; omega
      have HL := Lib.hid hlen
      clear hlen
      generalize v.get j = n at hi HS
      go_wp2_with (go_at_call 60; refine (oct_put _ _ _ _ _ (by omega) (by omega) hr2 HL.out).mono ?_; rintro e w1 ⟨v1, rfl, ho, hb1⟩)
      go_roundw
      case rel => exact ⟨j + 1, by omega, by go_num, by rw [HS.out, ← List.append_assoc]; exact ho.read, bl_then hb2 hb1⟩
      case measure => simp [intOf]; omega
    · obtain rfl : j = 8 := by omega
      go_wp2
      go_ret
      exact ⟨_, rfl, by simpa [V8.bytes, v.take_all] using hr2, hb2⟩
end Go.Proofs.YtbkffeabikjnhaaDoor
