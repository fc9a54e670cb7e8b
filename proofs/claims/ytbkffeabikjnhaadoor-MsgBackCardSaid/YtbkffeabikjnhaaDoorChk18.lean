/- The document's Check of a message: what the program's says. -/
import Derived.Test.YtbkffeabikjnhaaDoorChk18a
import Derived.Test.YtbkffeabikjnhaaDoorChk18b
import Derived.Test.YtbkffeabikjnhaaDoorChk18c
namespace Go.Proofs.YtbkffeabikjnhaaDoor
open Go.RowKit

theorem ref_check (m : Msg) (w : World) :
    Calls Tryd.prog 18 #[m.val] w fun e w' => e = .returned (.int .i64 m.code) ∧ Below w.heap.size w w' := by
  by_cases h : m.head = true
  · by_cases h1 : m.seen.good = true
    · by_cases h2 : m.base.ok = true
      · by_cases h3 : m.mark.ok = true
        · by_cases h4 : decide (m = m.bare) = true
          · have e : m.code = m.kcode := by unfold Msg.code Msg.kcode Msg.ok Msg.mid; rw [h, h1, h2, h3, h4]; rfl
            rw [e]
            have hk : m.kind = 1 ∨ m.kind = 2 ∨ m.kind = 3 ∨ m.kind = 4 := by
              have hh : 1 ≤ m.kind ∧ m.kind ≤ 4 ∧ 0 ≤ m.src ∧ m.src < 8 ∧ 0 ≤ m.dst ∧ m.dst < 8 ∧ m.src ≠ m.dst ∧ 0 ≤ m.vol ∧ m.vol < 3 := by simpa [Msg.head] using h
              omega
            rcases hk with hk | hk | hk | hk
            · exact rchk_kind1 m w h h1 h2 h3 h4 hk
            · exact rchk_kind2 m w h h1 h2 h3 h4 hk
            · exact rchk_kind3 m w h h1 h2 h3 h4 hk
            · exact rchk_kind4 m w h h1 h2 h3 h4 hk
          · have e : m.code = 201 := by unfold Msg.code Msg.ok Msg.mid; rw [Bool.eq_false_iff.2 h4]; simp
            rw [e]
            exact rchk_mid4 m w h h1 h2 h3 (by simpa using h4)
        · have e : m.code = 201 := by unfold Msg.code Msg.ok Msg.mid; rw [Bool.eq_false_iff.2 h3]; simp
          rw [e]
          exact rchk_mid3 m w h h1 h2 (by simpa using h3)
      · have e : m.code = 201 := by unfold Msg.code Msg.ok Msg.mid; rw [Bool.eq_false_iff.2 h2]; simp
        rw [e]
        exact rchk_mid2 m w h h1 (by simpa using h2)
    · have e : m.code = 201 := by unfold Msg.code Msg.ok Msg.mid; rw [Bool.eq_false_iff.2 h1]; simp
      rw [e]
      exact rchk_mid1 m w h (by simpa using h1)
  · have e : m.code = 201 := by unfold Msg.code Msg.ok; rw [Bool.eq_false_iff.2 h]; simp
    rw [e]
    exact rchk_head m w (by simpa using h)
end Go.Proofs.YtbkffeabikjnhaaDoor
