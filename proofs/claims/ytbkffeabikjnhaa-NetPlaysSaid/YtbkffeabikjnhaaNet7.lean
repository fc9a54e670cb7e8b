/- Package net: Double where there is nothing or no room; Send. -/
import Derived.Test.YtbkffeabikjnhaaNet6
namespace Go.Proofs.Ytbkffeabikjnhaa
open Go.RowKit

theorem net_double_no (w : World) (x : Value) (k c : Int) (hc : c ≠ 0)
    (hat : Calls Try.prog 29 #[x, .int .i64 k] w fun e w' => e = .returned (.int .i64 c) ∧ w = w') :
    Calls Try.prog 20 #[x, .int .i64 k] w fun e w' => e = .returned (.int .i64 c) ∧ Below w.heap.size w w' := by
  have hd : (c != 0) = true := by simp [hc]
  go_enter Try.func20, Try.ntmps20
  go_wp2_with (first
    | (go_at_call 29; (with_reducible refine hat.mono ?_); rintro e w4 ⟨rfl, rfl⟩))
  go_ret
  exact ⟨rfl, Below.refl _ _⟩
theorem net_double_full (w : World) (base gn : Nat) (v : Value) (L : List Msg) (sent lost : Int) (i : Nat) (h : NetAt w base gn v L sent lost) (hi : i < L.length) (hl : L.length = 160) :
    Calls Try.prog 20 #[ptr gn, .int .i64 i] w fun e w' => e = .returned (.int .i64 28) ∧ Below w.heap.size w w' := by
  have hat := hide (net_at w base gn v L sent lost i h (by omega) (by omega))
  obtain ⟨ao, c, rfl, hcell⟩ := h.shape
  have hc := h.box.cell 0
  have hd2 : decide ((160 : Int) ≤ (L.length : Int)) = true := by simp; omega
  clear h hcell hl
  go_enter Try.func20, Try.ntmps20
  go_wp2_with (first
    | (go_at_call 29; (with_reducible refine (unhide hat).mono ?_); rintro e w4 ⟨rfl, rfl⟩))
  go_ret
  exact ⟨rfl, Below.refl _ _⟩

theorem net_send_off (w : World) (x : Value) (m : Msg) (h : NetOff w x) :
    Calls Try.prog 17 #[x, m.val] w fun e w' => e = .returned (.int .i64 200) ∧ Below w.heap.size w w' := by
  go_enter Try.func17, Try.ntmps17
  go_wp2_with (first
    | ((with_reducible refine gate (N := 3) rfl ?_); refine ev_box rfl 32 (.tmp 1) rfl (cs := m.arr) rfl ?_; intro g1 w1 hx1 hb1 hg1 hl1)
    | (go_at_call 22; (with_reducible refine (net_dead_off w1 x (h.below hb1)).mono ?_); rintro e w4 ⟨rfl, rfl⟩))
  go_ret
  exact ⟨rfl, hb1⟩
theorem net_send_no (w : World) (base gn : Nat) (v : Value) (L : List Msg) (sent lost : Int) (m : Msg) (h : NetAt w base gn v L sent lost) (hm : m.ok = false) :
    Calls Try.prog 17 #[ptr gn, m.val] w fun e w' => e = .returned (.int .i64 201) ∧ Below w.heap.size w w' := by
  have hp := fun w1 => hide (msg_putNo m w1 hm)
  have hbx := h.box
  clear h hm
  go_enter Try.func17, Try.ntmps17
  go_wp2_with (first
    | ((with_reducible refine gate (N := 3) rfl ?_); refine ev_box rfl 32 (.tmp 1) rfl (cs := m.arr) rfl ?_; intro g1 w1 hx1 hb1 hg1 hl1)
    | (go_at_call 22; (with_reducible refine (net_dead w1 gn _ _ _ true (hbx.below hb1)).mono ?_); rintro e w4 ⟨rfl, rfl⟩)
    | ((with_reducible refine gate (N := 10) rfl ?_); refine ev_load rfl 32 (.tmp 3) rfl rfl hx1 aggMsg sizeMsg ?_)
    | (go_at_call 36; (with_reducible refine (unhide (hp w1)).mono ?_); rintro e w2 ⟨rfl, hb2⟩))
  go_ret
  exact ⟨rfl, bl_then hb1 hb2⟩
theorem net_send_full (w : World) (base gn : Nat) (v : Value) (L : List Msg) (sent lost : Int) (m : Msg) (h : NetAt w base gn v L sent lost) (hm : m.ok = true) (hl : L.length = 160) (h0 : 0 ≤ sent) (h1 : sent ≤ 1000000) (h2 : 0 ≤ lost) (h3 : lost ≤ 1000000) :
    Calls Try.prog 17 #[ptr gn, m.val] w fun e w' => e = .returned (.int .i64 28) ∧ NetTo w w' base gn v L (sent + 1) (lost + 1) := by
  have hp := fun w1 => hide (wire_put m w1 hm)
  have HN := hide h
  have hbx := h.box
  obtain ⟨ao, c, rfl, -⟩ := h.shape
  have hd2 : decide ((160 : Int) ≤ (L.length : Int)) = true := by simp; omega
  have lgn := h.box.lt
  clear h hm hl
  go_enter Try.func17, Try.ntmps17
  go_wp2_with (first
    | ((with_reducible refine gate (N := 3) rfl ?_); refine ev_box rfl 32 (.tmp 1) rfl (cs := m.arr) rfl ?_; intro g1 w1 hx1 hb1 hg1 hl1)
    | (go_at_call 22; (with_reducible refine (net_dead w1 gn _ _ _ true (hbx.below hb1)).mono ?_); rintro e w4 ⟨rfl, rfl⟩)
    | ((with_reducible refine gate (N := 10) rfl ?_); refine ev_load rfl 32 (.tmp 3) rfl rfl hx1 aggMsg sizeMsg ?_)
    | (go_at_call 36; (with_reducible refine (unhide (hp w1)).mono ?_); rintro e w2 ⟨rfl, hb2⟩; have hbx2 := (hbx.below hb1).below hb2; have hc2 := hbx2.cell; have HB2 := bl_then hb1 hb2)
    | ((with_reducible refine gateS (t := 3) (p := .tmp 23) (x := .tmp 21) rfl ?_); refine stop ?_))
  unfold Stop
  refine ev_set rfl 3 (.tmp 23) (.tmp 21) rfl rfl hbx2 (v := .int .i64 (sent + 1)) (cs' := #[.slice ao L.length c, .int .i64 (sent + 1), .int .i64 lost, .bool true]) rfl (by simp [Value.cells, Value.oneCell']) sizeInt (by simp [Value.cells]) (by simp [Value.cells]) ?_
  intro w3 hx3 hp3
  have hN3 := hide (((unhide HN).below HB2).stored hp3 hx3)
  have F3 := (Fr.of_below HB2 gn (Value.slice ao L.length c).ownBlock).andPut hp3
  have hc3 := hx3.cell
  clear hp hbx2 hc2 hx1 hb1 hb2 HB2 hp3
  go_wp2_with (first
    | ((with_reducible refine gateS (t := 3) (p := .tmp 36) (x := .tmp 34) rfl ?_); refine stop ?_))
  unfold Stop
  refine ev_set rfl 3 (.tmp 36) (.tmp 34) rfl rfl hx3 (v := .int .i64 (lost + 1)) (cs' := #[.slice ao L.length c, .int .i64 (sent + 1), .int .i64 (lost + 1), .bool true]) rfl (by simp [Value.cells, Value.oneCell']) sizeInt (by simp [Value.cells]) (by simp [Value.cells]) ?_
  intro w4 hx4 hp4
  have hN4 := (unhide hN3).stored hp4 hx4
  have F4 := F3.andPut hp4
  clear hp4 hx3 hc3
  go_wp2
  go_ret
  exact ⟨rfl, _, hN4, F4, fun _ e => .inl e⟩
end Go.Proofs.Ytbkffeabikjnhaa
