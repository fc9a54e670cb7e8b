/- Package net: Peek where there is nothing, Clone, Take. -/
import Derived.Test.YtbkffeabikjnhaaNet2
namespace Go.Proofs.Ytbkffeabikjnhaa
open Go.RowKit

theorem net_peek_no (w : World) (x : Value) (k c : Int) (hc : c ≠ 0) (hat : ∀ w1, Below w.heap.size w w1 → Calls Try.prog 29 #[x, .int .i64 k] w1 fun e w' => e = .returned (.int .i64 c) ∧ w1 = w') :
    Calls Try.prog 14 #[x, .int .i64 k] w fun e w' => e = .returned (.tuple #[Msg.zero.val, .int .i64 c]) ∧ Below w.heap.size w w' := by
  have hd : (c != 0) = true := by simp [hc]
  go_enter Try.func14, Try.ntmps14
  go_wp2_with (first
    | ((with_reducible refine gate (N := 4) rfl ?_); refine ev_alloc rfl 32 rfl (cs := Msg.zero.arr) zeroMsg ?_; intro g4 w4 hx4 hb4 hg4 hl4)
    | (go_at_call 29; (with_reducible refine (hat w4 hb4).mono ?_); rintro e w5 ⟨rfl, rfl⟩)
    | ((with_reducible refine gateS (t := 32) (p := .tmp 4) (x := .tmp 12) rfl ?_); refine stop ?_))
  unfold Stop
  refine ev_setAll rfl 32 (.tmp 4) (.tmp 12) rfl rfl (vs := Msg.zero.arr) hx4 rfl (oneMsg _) sizeMsg rfl ?_
  intro w7 hx7 hp7
  have HW := Put.below hb4 hp7 hg4
  clear hp7
  go_wp2
  refine bodyPost_ret (results_cell_tmp rfl _ w7 g4 32 Msg.zero.arr _ rfl rfl hx7 aggMsg sizeMsg) rfl ⟨rfl, HW⟩
theorem net_peek_out (w : World) (base gn : Nat) (v : Value) (L : List Msg) (sent lost : Int) (k : Int) (h : NetAt w base gn v L sent lost) (h0 : k < 0 ∨ (L.length : Int) ≤ k) :
    Calls Try.prog 14 #[ptr gn, .int .i64 k] w fun e w' => e = .returned (.tuple #[Msg.zero.val, .int .i64 2]) ∧ Below w.heap.size w w' :=
  net_peek_no w (ptr gn) k 2 (by decide) fun w1 hb => net_at_out w1 base gn v L sent lost k (h.below hb) h0
theorem NetOff.below {w w1 : World} {x : Value} (h : NetOff w x) (hb : Below w.heap.size w w1) : NetOff w1 x := by
  rcases h with rfl | ⟨gn, rfl, h⟩
  · exact .inl rfl
  · exact .inr ⟨gn, rfl, h.below hb⟩
theorem net_peek_off (w : World) (x : Value) (k : Int) (h : NetOff w x) :
    Calls Try.prog 14 #[x, .int .i64 k] w fun e w' => e = .returned (.tuple #[Msg.zero.val, .int .i64 200]) ∧ Below w.heap.size w w' :=
  net_peek_no w x k 200 (by decide) fun w1 hb => net_at_off w1 x k (h.below hb)

/-- Take where there is nothing. -/
theorem net_take_no (w : World) (x : Value) (k c : Int) (hc : c ≠ 0) (hat : ∀ w1, Below w.heap.size w w1 → Calls Try.prog 29 #[x, .int .i64 k] w1 fun e w' => e = .returned (.int .i64 c) ∧ w1 = w')
    (hpk : ∀ w1, Below w.heap.size w w1 → Calls Try.prog 14 #[x, .int .i64 k] w1 fun e w' => e = .returned (.tuple #[Msg.zero.val, .int .i64 c]) ∧ Below w1.heap.size w1 w') :
    Calls Try.prog 19 #[x, .int .i64 k] w fun e w' => e = .returned (.tuple #[Msg.zero.val, .int .i64 c]) ∧ Below w.heap.size w w' := by
  have hd : (c == 0) = false := by simp [hc]
  go_enter Try.func19, Try.ntmps19
  go_wp2_with (first
    | ((with_reducible refine gate (N := 4) rfl ?_); refine ev_alloc rfl 32 rfl (cs := Msg.zero.arr) zeroMsg ?_; intro g4 w4 hx4 hb4 hg4 hl4)
    | (go_at_call 14; (with_reducible refine (hpk w4 hb4).mono ?_); rintro e w5 ⟨rfl, hb5⟩)
    | ((with_reducible refine gate (N := 6) rfl ?_); refine ev_alloc rfl 32 rfl (cs := Msg.zero.arr) zeroMsg ?_; intro g6 w6 hx6 hb6 hg6 hl6; refine stop ?_))
  unfold Stop
  refine ev_setAll rfl 32 (.tmp 6) (.tmp 12) rfl rfl (vs := Msg.zero.arr) hx6 rfl (oneMsg _) sizeMsg rfl ?_
  intro w7 hx7 hp7
  have n46 : g4 ≠ g6 := by have := hb5.size; omega
  have hx47 := ((hx4.below hb5).below hb6).put hp7 n46
  have HW7 := Put.below (bl_then (bl_then hb4 hb5) hb6) hp7 (by have := hb4.size; have := hb5.size; omega)
  clear hx6 hx4 hb4 hb5 hb6 hp7 hg6 hl6 hl4
  go_wp2_with (first
    | (go_at_call 29; (with_reducible refine (hat w7 HW7).mono ?_); rintro e w8 ⟨rfl, rfl⟩)
    | ((with_reducible refine gate (N := 30) rfl ?_); refine ev_load rfl 32 (.tmp 6) rfl rfl hx7 aggMsg sizeMsg ?_)
    | ((with_reducible refine gateS (t := 32) (p := .tmp 4) (x := .tmp 30) rfl ?_); refine stop ?_))
  unfold Stop
  refine ev_setAll rfl 32 (.tmp 4) (.tmp 30) rfl rfl (vs := Msg.zero.arr) hx47 rfl (oneMsg _) sizeMsg rfl ?_
  intro w9 hx9 hp9
  have HW9 := Put.below HW7 hp9 hg4
  clear hp9
  go_wp2
  refine bodyPost_ret (results_cell_tmp rfl _ w9 g4 32 Msg.zero.arr _ rfl rfl hx9 aggMsg sizeMsg) rfl ⟨rfl, HW9⟩

theorem own_slice {α : Type} {E : Enc α} {w : World} {base : Nat} {e : TypeId} {v : Value} {xs : List α} (h : E.O w base e v xs) : ∃ ao n c, v = .slice ao n c := by
  obtain ⟨ao, c, rfl, -⟩ := h.read.open_
  exact ⟨_, _, _, rfl⟩
/-- A net's clone. -/
theorem net_clone (w : World) (base gn : Nat) (v : Value) (L : List Msg) (sent lost : Int) (h : NetAt w base gn v L sent lost) :
    Calls Try.prog 12 #[ptr gn] w fun e w' => ∃ gc vc, e = .returned (ptr gc) ∧ NetAt w' w.heap.size gc vc L sent lost ∧ Below w.heap.size w w' := by
  have hlen := h.len
  have hok := h.ok
  have hbx := h.box
  have hcl := hide (strs_clone w.drew base v (L.map wire) h.own (by rw [List.length_map]; omega))
  clear h
  have hc := hbx.cell
  go_enter Try.func12, Try.ntmps12
  go_wp2_with (first
    | (go_at_call 22; (with_reducible refine (net_dead w gn _ _ _ true hbx).mono ?_); rintro e w1 ⟨rfl, rfl⟩))
  go_region_held3 (fun w' => ∀ j, w'.cell? ⟨gn, j, none⟩ = (#[v, .int .i64 sent, .int .i64 lost, .bool true] : Array Value)[j]?) (first | assumption | exact (Box.alloc hx1 _).cell)
    (first
      | (go_at_call 23; (with_reducible refine (unhide hcl).mono ?_); rintro e w1 ⟨v1, rfl, ho1, hb1⟩; obtain ⟨ao1, n1, c1, rfl⟩ := own_slice ho1; have hx1 := hbx.below (bl_of_drew hb1); have hc1 := hx1.cell))
  go_wp2
  go_ret
  have hg : w.heap.size ≤ w1.heap.size := hb1.size
  refine ⟨w1.heap.size, _, rfl, ⟨Box.new _ _ _, ho1.alloc _, hg, ?_, hok, hlen⟩, bl_alloc (bl_of_drew hb1) _⟩
  intro e
  have := own_lt ho1 _ e
  omega
theorem net_clone_off (w : World) (x : Value) (h : NetOff w x) :
    Calls Try.prog 12 #[x] w fun e w' => e = .returned (.pointer none) ∧ w = w' := by
  go_enter Try.func12, Try.ntmps12
  go_wp2_with (first
    | (go_at_call 22; (with_reducible refine (net_dead_off w x h).mono ?_); rintro e w1 ⟨rfl, rfl⟩))
  go_ret
  exact ⟨rfl, rfl⟩
end Go.Proofs.Ytbkffeabikjnhaa
