/- Package net: Lose, Double, Send. -/
import Derived.Test.YtbkffeabikjnhaaNet4
namespace Go.Proofs.Ytbkffeabikjnhaa
open Go.RowKit

theorem net_lose_no (w : World) (x : Value) (k c : Int) (hc : c ≠ 0)
    (htk : Calls Try.prog 19 #[x, .int .i64 k] w fun e w' => e = .returned (.tuple #[Msg.zero.val, .int .i64 c]) ∧ Below w.heap.size w w') :
    Calls Try.prog 21 #[x, .int .i64 k] w fun e w' => e = .returned (.int .i64 c) ∧ Below w.heap.size w w' := by
  have hd : (c == 0) = false := by simp [hc]
  go_enter Try.func21, Try.ntmps21
  go_wp2_with (first
    | (go_at_call 19; (with_reducible refine htk.mono ?_); rintro e w4 ⟨rfl, hb4⟩)
    | ((with_reducible refine gate (N := 5) rfl ?_); refine ev_alloc rfl 32 rfl (cs := Msg.zero.arr) zeroMsg ?_; intro g6 w6 hx6 hb6 hg6 hl6; refine stop ?_))
  unfold Stop
  refine ev_setAll rfl 32 (.tmp 5) (.tmp 11) rfl rfl (vs := Msg.zero.arr) hx6 rfl (oneMsg _) sizeMsg rfl ?_
  intro w7 hx7 hp7
  have HW := Put.below (bl_then hb4 hb6) hp7 (by have := hb4.size; omega)
  clear hp7 hx6 hx7
  go_wp2
  go_ret
  exact ⟨rfl, HW⟩
theorem net_lose (w : World) (base gn : Nat) (v : Value) (L : List Msg) (sent lost : Int) (i : Nat) (h : NetAt w base gn v L sent lost) (hi : i < L.length) (h0 : 0 ≤ lost) (h1 : lost ≤ 1000000) :
    Calls Try.prog 21 #[ptr gn, .int .i64 i] w fun e w' => e = .returned (.int .i64 0) ∧ NetTo w w' base gn v (L.take i ++ L.drop (i + 1)) sent (lost + 1) := by
  have htk := hide (net_take w base gn v L sent lost i h hi)
  have hb := h.base_le
  have hgl := h.box.lt
  clear h
  generalize L[i] = m at *
  go_enter Try.func21, Try.ntmps21
  go_wp2_with (first
    | (go_at_call 19; (with_reducible refine (unhide htk).mono ?_); rintro e w4 ⟨rfl, v4, hN4, F4, hv4⟩)
    | ((with_reducible refine gate (N := 5) rfl ?_); refine ev_alloc rfl 32 rfl (cs := Msg.zero.arr) zeroMsg ?_; intro g6 w6 hx6 hb6 hg6 hl6; refine stop ?_))
  unfold Stop
  refine ev_setAll rfl 32 (.tmp 5) (.tmp 11) rfl rfl (vs := m.arr) hx6 rfl (oneMsg _) sizeMsg rfl ?_
  intro w7 hx7 hp7
  have hs4 := F4.size
  have l4 := hN4.box.lt
  have hN7 := (hN4.below hb6).of_put hp7 (by omega) (fun e => by have h2 := hN4.row_lt _ e; omega)
  have F7 := (F4.andBelow hb6).putNew hp7 (by omega)
  have HV := hide hv4
  clear hp7 hx6 hx7 hN4 F4 hb6 hv4 htk
  have hc := hN7.box.cell 2
  have hbx := hN7.box
  have HN := hide hN7
  clear hN7
  go_wp2_with (first
    | ((with_reducible refine gateS (t := 3) (p := .tmp 21) (x := .tmp 19) rfl ?_); refine stop ?_))
  unfold Stop
  refine ev_set rfl 3 (.tmp 21) (.tmp 19) rfl rfl hbx (v := .int .i64 (lost + 1)) (cs' := #[v4, .int .i64 sent, .int .i64 (lost + 1), .bool true]) rfl (by simp [Value.cells, Value.oneCell']) sizeInt (by simp [Value.cells]) (by simp [Value.cells]) ?_
  intro w8 hx8 hp8
  have hN8 := (unhide HN).stored hp8 hx8
  have F8 := F7.andPut hp8
  clear hc hbx hp8 hx8
  go_wp2
  go_ret
  exact ⟨rfl, _, hN8, F8, unhide HV⟩
end Go.Proofs.Ytbkffeabikjnhaa
