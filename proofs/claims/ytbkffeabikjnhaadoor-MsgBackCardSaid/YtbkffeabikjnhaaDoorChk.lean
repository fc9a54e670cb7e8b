/- Messages: Check. -/
import Derived.Test.YtbkffeabikjnhaaDoorBare
namespace Go.Proofs.YtbkffeabikjnhaaDoor
open Go.RowKit

def Mk.ok (m : Mk) : Bool := if m.boot = 0 then decide (m.n = 0) else decide (1 ≤ m.boot ∧ m.boot ≤ 1099511627776 ∧ 1 ≤ m.n ∧ m.n ≤ 1099511627776)
theorem mark_ok (m : Mk) (w : World) :
    Calls Tryd.prog 50 #[m.val] w fun e w' => e = .returned (.bool m.ok) ∧ Below w.heap.size w w' := by
  by_cases h0 : m.boot = 0
  · have h0' : (m.boot == 0) = true := by simp [h0]
    have H := Lib.hid h0
    clear h0
    go_enter Tryd.func50, Tryd.ntmps50
    go_wp2
    go_ret
    exact ⟨congrArg (fun b => Ending.returned (Value.bool b)) (by unfold Mk.ok; rw [if_pos H.out]; rfl), bl_alloc (Below.refl _ _) _⟩
  · have h0' : (m.boot == 0) = false := by simp [h0]
    go_enter Tryd.func50, Tryd.ntmps50
    go_wp2
    all_goals go_ret
    all_goals refine ⟨congrArg (fun b => Ending.returned (Value.bool b)) ?_, bl_alloc (Below.refl _ _) _⟩
    all_goals (unfold Mk.ok; rw [if_neg h0])
    all_goals first | (symm; apply decide_eq_false; omega) | (rw [decide_eq_decide]; omega)

def Msg.head (m : Msg) : Bool := decide (1 ≤ m.kind ∧ m.kind ≤ 4 ∧ 0 ≤ m.src ∧ m.src < 8 ∧ 0 ≤ m.dst ∧ m.dst < 8 ∧ m.src ≠ m.dst ∧ 0 ≤ m.vol ∧ m.vol < 3)
set_option maxHeartbeats 1000000 in
set_option maxRecDepth 100000 in
theorem check_headless (m : Msg) (w : World) (h : m.head = false) :
    Calls Tryd.prog 17 #[m.val] w fun e w' => e = .returned (.int .i64 201) ∧ Below w.heap.size w w' := by
  have hh : ¬ (1 ≤ m.kind ∧ m.kind ≤ 4 ∧ 0 ≤ m.src ∧ m.src < 8 ∧ 0 ≤ m.dst ∧ m.dst < 8 ∧ m.src ≠ m.dst ∧ 0 ≤ m.vol ∧ m.vol < 3) := by simpa [Msg.head] using h
  have HH := Lib.hid hh
  clear hh h
  by_cases hsd : m.src = m.dst
  · have hb : (m.src != m.dst) = false := by simp [hsd]
    have HS := Lib.hid hsd
    clear hsd HH HS
    go_enter Tryd.func17, Tryd.ntmps17
    go_wp2_with (first
      | ((with_reducible refine gate (N := 1) rfl ?_); refine ev_box rfl 41 (.tmp 0) rfl (cs := m.arr) rfl ?_; intro g1 w1 hx1 hb1 hg1 hl1; have hc1 := hx1.cell))
    all_goals clear hx1
    all_goals go_quiet (fail)
    all_goals go_wp2
    all_goals go_ret
    all_goals exact ⟨rfl, bl_drewN hb1 _⟩
  · have hb : (m.src != m.dst) = true := by simp [hsd]
    by_cases hv : m.vol < 3
    · have hv' : decide (m.vol < 3) = true := by simpa using hv
      go_enter Tryd.func17, Tryd.ntmps17
      go_wp2_with (first
        | ((with_reducible refine gate (N := 1) rfl ?_); refine ev_box rfl 41 (.tmp 0) rfl (cs := m.arr) rfl ?_; intro g1 w1 hx1 hb1 hg1 hl1; have hc1 := hx1.cell))
      all_goals clear hx1
      all_goals first
        | (exfalso; have hq := HH.out; omega)
        | (clear HH; go_quiet (fail); go_wp2; go_ret; exact ⟨rfl, bl_drewN hb1 _⟩)
    · have hv' : decide (m.vol < 3) = false := by simpa using hv
      go_enter Tryd.func17, Tryd.ntmps17
      go_wp2_with (first
        | ((with_reducible refine gate (N := 1) rfl ?_); refine ev_box rfl 41 (.tmp 0) rfl (cs := m.arr) rfl ?_; intro g1 w1 hx1 hb1 hg1 hl1; have hc1 := hx1.cell))
      all_goals clear hx1
      all_goals first
        | (exfalso; have hq := HH.out; omega)
        | (clear HH; go_quiet (fail); go_wp2; go_ret; exact ⟨rfl, bl_drewN hb1 _⟩)

end Go.Proofs.YtbkffeabikjnhaaDoor
